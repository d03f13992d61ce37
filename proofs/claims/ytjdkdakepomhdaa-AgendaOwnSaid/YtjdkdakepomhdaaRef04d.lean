/- The document's agenda (layer 4): First, Due; the order is one. -/
import Derived.Test.YtjdkdakepomhdaaRef04c
namespace Go.Proofs.Ytjdkdakepomhdaa
open Go.RowKit

theorem lt_trans' {a b c : Ent} (h : a.lt b) (h2 : b.lt c) : a.lt c := by unfold Ent.lt at *; omega
def insE (e : Ent) : List Ent → List Ent
  | [] => [e]
  | a :: r => if e.lt a then e :: a :: r else a :: insE e r
theorem insE_perm (e : Ent) : ∀ l, (insE e l).Perm (e :: l)
  | [] => List.Perm.refl _
  | a :: r => by
    unfold insE
    split
    · exact List.Perm.refl _
    · exact ((insE_perm e r).cons a).trans (List.Perm.swap e a r)
theorem insE_ord (e : Ent) : ∀ l : List Ent, l.Pairwise Ent.lt → (∀ a ∈ l, a.turn ≠ e.turn) → (insE e l).Pairwise Ent.lt
  | [], _, _ => List.pairwise_singleton _ _
  | a :: r, h, hne => by
    rw [List.pairwise_cons] at h
    unfold insE
    split
    · rename_i h1
      rw [List.pairwise_cons]
      refine ⟨fun b hb => ?_, List.pairwise_cons.2 h⟩
      rcases List.mem_cons.1 hb with rfl | hb
      · exact h1
      · exact lt_trans' h1 (h.1 b hb)
    · rename_i h1
      rw [List.pairwise_cons]
      refine ⟨fun b hb => ?_, insE_ord e r h.2 (fun x hx => hne x (List.mem_cons_of_mem _ hx))⟩
      rcases List.mem_cons.1 ((insE_perm e r).mem_iff.1 hb) with rfl | hb
      · have := hne a List.mem_cons_self
        unfold Ent.lt at *; omega
      · exact h.1 b hb
/-- There is an order. -/
theorem ord_ex : ∀ (S : List Ent), S.Pairwise (fun a b => a.turn < b.turn) → ∃ Q, Ord S Q
  | [], _ => ⟨[], List.Perm.refl _, List.Pairwise.nil⟩
  | e :: r, h => by
    rw [List.pairwise_cons] at h
    obtain ⟨Q, hQ⟩ := ord_ex r h.2
    refine ⟨insE e Q, (insE_perm e Q).trans (hQ.perm.cons e), insE_ord e Q hQ.ord (fun a ha => ?_)⟩
    have := h.1 a (hQ.perm.mem_iff.1 ha)
    omega
theorem ord_one' : ∀ (Q Q' : List Ent), Q.Perm Q' → Q.Pairwise Ent.lt → Q'.Pairwise Ent.lt → Q = Q'
  | [], Q', hp, _, _ => (List.Perm.nil_eq hp)
  | a :: r, [], hp, _, _ => by have := hp.length_eq; simp at this
  | a :: r, b :: r', hp, h, h' => by
    have h1 := List.pairwise_cons.1 h
    have h1' := List.pairwise_cons.1 h'
    have hab : a = b := by
      rcases List.mem_cons.1 (hp.mem_iff.1 (List.mem_cons_self (a := a) (l := r))) with h2 | h2
      · exact h2
      · rcases List.mem_cons.1 (hp.mem_iff.2 (List.mem_cons_self (a := b) (l := r'))) with h3 | h3
        · exact h3.symm
        · exact absurd (h1.1 b h3) (lt_asymm (h1'.1 a h2))
    subst hab
    rw [ord_one' r r' (List.Perm.cons_inv hp) h1.2 h1'.2]
theorem Ord.one {S Q Q' : List Ent} (h : Ord S Q) (h' : Ord S Q') : Q' = Q := ord_one' _ _ (h'.perm.trans h.perm.symm) h'.ord h.ord

def firstV : List Ent → Value
  | [] => .tuple #[.int .i64 0, .int .i64 0, .bool false]
  | e :: _ => .tuple #[.int .i64 e.id, .int .i64 e.tm, .bool true]

/-- First() of the program's. -/
theorem first_any {w : World} {g : Nat} {S Q : List Ent} {T : Nat} {B : List Nat} (h : IsAg w g S T B) (hQ : Ord S Q) : Calls Try.prog 17 #[.pointer (some ⟨g, 0, none⟩)] w fun x w' =>
    x = .returned (firstV Q) ∧ ∃ m, w' = w.drewN m := by
  by_cases hS : S = []
  · subst hS
    obtain rfl : Q = [] := List.perm_nil.1 hQ.perm
    exact (first_nil h).mono fun e w' ⟨h1, h2⟩ => ⟨h1, 0, by rw [← h2]; rfl⟩
  · refine (first_some h hS).mono ?_
    rintro x w' ⟨e, m, he, hm, rfl, rfl⟩
    refine ⟨?_, m, rfl⟩
    cases hQQ : Q with
    | nil => rw [hQQ] at hQ; exact absurd (List.nil_perm.1 hQ.perm) (by simpa using hS)
    | cons f r =>
      have hl : leftS S Q 0 = S := leftS_zero hQ.perm
      have := least_left (f := f) (j := 0) hQ (by rw [hQQ]; rfl) (by rw [hl]; exact he) (by rw [hl]; exact hm)
      rw [this]; rfl

/-- First() of the document's. -/
theorem rfirst_any {w : World} {r : Nat} {k : Option Ks} {S Q : List Ent} (h : IsRef w r k S) (hS : S.length < 100000) (ht : S.Pairwise (fun a b => a.turn < b.turn)) (hQ : Ord S Q) : Calls Try.prog 9 #[.pointer (some ⟨r, 0, none⟩)] w fun v w' =>
    v = .returned (firstV Q) ∧ Fr [] w w' := by
  have HA := Lib.hid (rall_any h hS ht)
  have HQ := Lib.hid hQ
  clear h ht hQ
  cases hQQ : Q with
  | nil =>
    have HQQ := Lib.hid hQQ
    clear hQQ
    go_enter Try.func9, Try.ntmps9
    go_wp2_with (go_at_call 23; refine HA.out.mono ?_; rintro v w1 ⟨lk, Q1, rfl, ho, he, hn, hf⟩; obtain rfl := HQ.out.one ho; obtain ⟨p, c, hv, hc, -⟩ := he.open; rw [hv]; have hl0 : Q1.length = 0 := (by rw [HQQ.out]; rfl); rw [hl0]; have HF := Lib.hid hf; clear ho he hn hf hv hc)
    go_ret3
    exact ⟨rfl, HF.out⟩
  | cons e q =>
    have HQQ := Lib.hid hQQ
    clear hQQ
    go_enter Try.func9, Try.ntmps9
    go_wp2_with (go_at_call 23; refine HA.out.mono ?_; rintro v w1 ⟨lk, Q1, rfl, ho, he, hn, hf⟩; obtain rfl := HQ.out.one ho; obtain ⟨p, c, hv, hc, hat⟩ := he.open; rw [hv]; have hl0 : ((Q1.length : Int) == 0) = false := (by rw [HQQ.out]; exact beq_eq_false_iff_ne.2 (by simp; omega)); have hl1 : (0 : Int) < Q1.length := (by rw [HQQ.out, List.length_cons]; omega); obtain ⟨g, rfl, q0, q1⟩ := hat 0 e (by rw [HQQ.out]; rfl); rw [Nat.zero_mul] at q0 q1; rw [Nat.zero_add] at q1; have HF := Lib.hid hf; have HC := Lib.hid hc; clear ho he hn hf hv hc hat)
    go_quiet (fail)
    go_wp2_with fail
    go_ret3
    exact ⟨rfl, HF.out.drewN _⟩
end Go.Proofs.Ytjdkdakepomhdaa
