/- Heaps: the plain laws of sifting up and down. No program in sight. -/
import Derived.Test.YtjdkdakepomhdaaAgA
namespace Go.Proofs.Ytjdkdakepomhdaa
open Go.RowKit

theorem lt_irr (a : Ent) : ¬ a.lt a := by unfold Ent.lt; omega
theorem lt_asymm {a b : Ent} (h : a.lt b) : ¬ b.lt a := by unfold Ent.lt at *; omega
theorem le_trans' {a b c : Ent} (h : ¬ b.lt a) (h2 : ¬ c.lt b) : ¬ c.lt a := by unfold Ent.lt at *; omega

/-- f s is not behind f t. -/
def fle (f : Nat → Ent) (s t : Nat) : Prop := ¬ (f t).lt (f s)
def sw (f : Nat → Ent) (i j : Nat) : Nat → Ent := fun t => if t = j then f i else if t = i then f j else f t
def HeapF (n : Nat) (f : Nat → Ent) : Prop := ∀ t, 0 < t → t < n → fle f ((t - 1) / 2) t
def UpF (n : Nat) (f : Nat → Ent) (j : Nat) : Prop := (∀ t, 0 < t → t < n → t ≠ j → fle f ((t - 1) / 2) t) ∧ (0 < j → ∀ t, 0 < t → t < n → (t - 1) / 2 = j → fle f ((j - 1) / 2) t)
def FixF (n : Nat) (f : Nat → Ent) (i : Nat) : Prop := (∀ t, 0 < t → t < n → t ≠ i → (t - 1) / 2 ≠ i → fle f ((t - 1) / 2) t) ∧ (0 < i → ∀ t, 0 < t → t < n → (t - 1) / 2 = i → fle f ((i - 1) / 2) t)
def DownF (n : Nat) (f : Nat → Ent) (i0 i : Nat) : Prop := FixF n f i ∧ (i ≠ i0 → 0 < i ∧ fle f ((i - 1) / 2) i)

theorem fle_trans {f : Nat → Ent} {a b c : Nat} (h : fle f a b) (h2 : fle f b c) : fle f a c := le_trans' h h2

theorem up_done {n : Nat} {f : Nat → Ent} {j : Nat} (h : UpF n f j) (h2 : 0 < j → fle f ((j - 1) / 2) j) : HeapF n f := fun t h0 ht => by
  by_cases e : t = j
  · subst e; exact h2 h0
  · exact h.1 t h0 ht e

theorem up_step {n : Nat} {f : Nat → Ent} {j : Nat} (h : UpF n f j) (h0 : 0 < j) (hj : j < n) (hl : (f j).lt (f ((j - 1) / 2))) : UpF n (sw f ((j - 1) / 2) j) ((j - 1) / 2) := by
  obtain ⟨h1, h2⟩ := h
  have hpj : (j - 1) / 2 ≠ j := by omega
  generalize hp : (j - 1) / 2 = p at *
  refine ⟨fun t t0 tn tp => ?_, fun p0 t t0 tn htp => ?_⟩
  · unfold fle sw
    by_cases e1 : t = j
    · subst e1
      rw [hp, if_pos rfl, if_neg hpj, if_pos rfl]
      exact lt_asymm hl
    · rw [if_neg e1, if_neg tp]
      by_cases e2 : (t - 1) / 2 = j
      · rw [e2, if_pos rfl]; exact h2 h0 t t0 tn e2
      · rw [if_neg e2]
        by_cases e3 : (t - 1) / 2 = p
        · rw [if_pos e3]
          have := h1 t t0 tn e1
          rw [e3] at this
          exact le_trans' (lt_asymm hl) this
        · rw [if_neg e3]; exact h1 t t0 tn e1
  · have hpp : (p - 1) / 2 ≠ p ∧ (p - 1) / 2 ≠ j := by omega
    have h3 := h1 p p0 (by omega) hpj
    unfold fle sw
    rw [if_neg hpp.2, if_neg hpp.1]
    by_cases e1 : t = j
    · rw [if_pos e1]; exact h3
    · rw [if_neg e1, if_neg (by omega)]
      have := h1 t t0 tn e1
      rw [htp] at this
      exact fle_trans h3 this

theorem down_stop {n : Nat} {f : Nat → Ent} {i0 i : Nat} (h : DownF n f i0 i) (hc : ∀ t, 0 < t → t < n → (t - 1) / 2 = i → fle f i t) : UpF n f i ∧ (i ≠ i0 → HeapF n f) := by
  have h1 : UpF n f i := ⟨fun t t0 tn ti => by
    by_cases e : (t - 1) / 2 = i
    · rw [e]; exact hc t t0 tn e
    · exact h.1.1 t t0 tn ti e, h.1.2⟩
  exact ⟨h1, fun hne => up_done h1 (fun _ => (h.2 hne).2)⟩

theorem down_step {n : Nat} {f : Nat → Ent} {i0 i c : Nat} (h : DownF n f i0 i) (c0 : 0 < c) (cn : c < n) (hci : (c - 1) / 2 = i) (hc : ∀ t, 0 < t → t < n → (t - 1) / 2 = i → fle f c t) (hl : (f c).lt (f i)) (hi0 : i0 ≤ i) : DownF n (sw f i c) i0 c := by
  obtain ⟨⟨h1, h2⟩, h3⟩ := h
  have hic : i ≠ c := by omega
  refine ⟨⟨fun t t0 tn tc tpc => ?_, fun _ t t0 tn htc => ?_⟩, fun _ => ⟨c0, ?_⟩⟩
  · unfold fle sw
    rw [if_neg tc, if_neg tpc]
    by_cases e1 : t = i
    · subst e1
      rw [if_pos rfl, if_neg (by omega)]
      exact h2 t0 c c0 cn hci
    · rw [if_neg e1]
      by_cases e2 : (t - 1) / 2 = i
      · rw [if_pos e2]; exact hc t t0 tn e2
      · rw [if_neg e2]; exact h1 t t0 tn e1 e2
  · unfold fle sw
    rw [hci, if_neg hic, if_pos rfl, if_neg (by omega), if_neg (by omega)]
    have := h1 t t0 tn (by omega) (by omega)
    rw [htc] at this
    exact this
  · unfold fle sw
    rw [hci, if_pos rfl, if_neg hic, if_pos rfl]
    exact lt_asymm hl

/-- A list as a function. -/
def vw (L : List Ent) (t : Nat) : Ent := (L[t]?).getD ⟨0, 0, 0, 0⟩
theorem vw_some {L : List Ent} {t : Nat} {a : Ent} (h : L[t]? = some a) : vw L t = a := by simp [vw, h]
theorem vw_swap {L : List Ent} {i j : Nat} {a b : Ent} (hi : L[i]? = some a) (hj : L[j]? = some b) : vw ((L.set i b).set j a) = sw (vw L) i j := by
  have h1 := (List.getElem?_eq_some_iff.1 hi).1
  have h2 := (List.getElem?_eq_some_iff.1 hj).1
  funext t
  unfold vw sw
  rw [List.getElem?_set, List.getElem?_set]
  by_cases e1 : j = t
  · subst e1; simp [h2, hi]
  · rw [if_neg e1, if_neg (Ne.symm e1)]
    by_cases e2 : i = t
    · subst e2; simp [h1, hj]
    · rw [if_neg e2, if_neg (Ne.symm e2)]
theorem swap_out {L : List Ent} {i j : Nat} {a b : Ent} (t : Nat) (h1 : t ≠ i) (h2 : t ≠ j) : ((L.set i b).set j a)[t]? = L[t]? := by
  rw [List.getElem?_set_ne (Ne.symm h2), List.getElem?_set_ne (Ne.symm h1)]

/-- In a heap nothing is ahead of the first. -/
theorem heap_first {n : Nat} {f : Nat → Ent} (h : HeapF n f) : ∀ t, t < n → fle f 0 t := by
  intro t
  induction t using Nat.strongRecOn with
  | _ t ih =>
    intro ht
    by_cases h0 : t = 0
    · subst h0; exact lt_irr _
    · exact fle_trans (ih ((t - 1) / 2) (by omega) (by omega)) (h t (by omega) ht)

/-- A heap in which number i was changed. -/
theorem heap_fix {n : Nat} {f f' : Nat → Ent} {i : Nat} (h : HeapF n f) (hi : i < n) (he : ∀ t, t < n → t ≠ i → f' t = f t) : FixF n f' i := by
  refine ⟨fun t t0 tn ti tp => ?_, fun i0 t t0 tn htp => ?_⟩
  · unfold fle; rw [he t tn ti, he _ (by omega) tp]; exact h t t0 tn
  · unfold fle
    rw [he t tn (by omega), he _ (by omega) (by omega)]
    have h1 := h t t0 tn
    rw [htp] at h1
    exact fle_trans (h i i0 hi) h1
/-- .. at whose end one more stands. -/
theorem heap_push {n : Nat} {f f' : Nat → Ent} (h : HeapF n f) (he : ∀ t, t < n → f' t = f t) : UpF (n + 1) f' n := by
  refine ⟨fun t t0 tn ti => ?_, fun _ t t0 tn htp => by omega⟩
  unfold fle; rw [he t (by omega), he _ (by omega)]; exact h t t0 (by omega)
theorem HeapF.mono {n n' : Nat} {f : Nat → Ent} (h : HeapF n f) (hn : n' ≤ n) : HeapF n' f := fun t t0 ht => h t t0 (by omega)
theorem HeapF.congr {n : Nat} {f f' : Nat → Ent} (h : HeapF n f) (he : ∀ t, t < n → f' t = f t) : HeapF n f' := fun t t0 ht => by
  unfold fle; rw [he t ht, he _ (by omega)]; exact h t t0 ht
end Go.Proofs.Ytjdkdakepomhdaa
