/- Package agenda: an agenda over the list of its entries, in the order in which they were set: New, Len, At, First. -/
import Derived.Test.YtjdkdakepomhdaaAgM
namespace Go.Proofs.Ytjdkdakepomhdaa
open Go.RowKit

def mapOf (S : List Ent) (x : Int) : Option Nat := (S.find? (fun e => e.id == x)).map Ent.blk

/-- An agenda: its entries in the order in which they were set; how often was set; its blocks. -/
structure IsAg (w : World) (g : Nat) (S : List Ent) (T : Nat) (B : List Nat) : Prop where
  ex : ∃ m k L, AgRow w g m T k L ∧ HeapF L.length (vw L) ∧ L.Perm S ∧ MapIs w m T (mapOf S) ∧ B = g :: m :: rowB k L
  ids : (S.map Ent.id).Nodup
  wf : ∀ e ∈ S, (Lit.int .i64 e.id).wf = true
  turns : S.Pairwise (fun a b => a.turn < b.turn)
  top : ∀ e ∈ S, e.turn ≤ T
  size : S.length ≤ T

theorem AgRow.m_row {w : World} {g m : Nat} {T : Int} {k : Option Kp} {L : List Ent} {n : Nat} {M : Int → Option Nat} (h : AgRow w g m T k L) (hm : MapIs w m n M) : m ∉ g :: rowB k L := by
  obtain ⟨es, c, hes⟩ := hm.obj
  intro hx
  rcases List.mem_cons.1 hx with hx | hx
  · subst hx
    have := h.obj.symm.trans hes
    simp at this
  · rcases List.mem_append.1 hx with hx | hx
    · cases k with
      | none => cases hx
      | some k =>
        obtain rfl : m = k.g := by simpa [kg] using hx
        have := hes.symm.trans (Kp.Lies.heap h.ok)
        simp at this
    · obtain ⟨e, he, rfl⟩ := List.mem_map.1 hx
      obtain ⟨i, hi, rfl⟩ := List.getElem_of_mem he
      have := hes.symm.trans (h.ents i _ (List.getElem?_eq_getElem hi))
      simp at this
theorem IsAg.lt {w : World} {g : Nat} {S : List Ent} {T : Nat} {B : List Nat} (h : IsAg w g S T B) : ∀ x ∈ B, x < w.heap.size := by
  obtain ⟨m, k, L, h1, h2, h3, h4, rfl⟩ := h.ex
  intro x hx
  rcases List.mem_cons.1 hx with hx | hx
  · exact h1.lt x (hx ▸ List.mem_cons_self)
  · rcases List.mem_cons.1 hx with hx | hx
    · exact hx ▸ h4.lt
    · exact h1.lt x (List.mem_cons_of_mem _ hx)
theorem IsAg.fr {w w' : World} {g : Nat} {S : List Ent} {T : Nat} {B X : List Nat} (h : IsAg w g S T B) (hf : Fr X w w') (hx : ∀ x ∈ B, x ∉ X) : IsAg w' g S T B := by
  obtain ⟨m, k, L, h1, h2, h3, h4, rfl⟩ := h.ex
  refine ⟨⟨m, k, L, h1.fr hf (fun x hm => hx x ?_), h2, h3, h4.fr hf (hx m (by simp)), rfl⟩, h.ids, h.wf, h.turns, h.top, h.size⟩
  rcases List.mem_cons.1 hm with hm | hm
  · exact hm ▸ List.mem_cons_self
  · exact List.mem_cons_of_mem _ (List.mem_cons_of_mem _ hm)

theorem find_id {S : List Ent} (hn : (S.map Ent.id).Nodup) {e : Ent} (he : e ∈ S) : S.find? (fun x => x.id == e.id) = some e := by
  induction S with
  | nil => cases he
  | cons a r ih =>
    rw [List.map_cons, List.nodup_cons] at hn
    rcases List.mem_cons.1 he with rfl | he
    · simp
    · have : ¬ a.id = e.id := fun h => hn.1 (h ▸ List.mem_map_of_mem he)
      rw [List.find?_cons_of_neg (by simpa using this)]
      exact ih hn.2 he
theorem mapOf_none {S : List Ent} {x : Int} : mapOf S x = none ↔ ∀ e ∈ S, e.id ≠ x := by
  unfold mapOf; rw [Option.map_eq_none_iff, List.find?_eq_none]; simp
theorem mapOf_some {S : List Ent} (hn : (S.map Ent.id).Nodup) {e : Ent} (he : e ∈ S) : mapOf S e.id = some e.blk := by
  unfold mapOf; rw [find_id hn he]; rfl
theorem mapOf_cases (S : List Ent) (x : Int) : (∀ e ∈ S, e.id ≠ x) ∨ ∃ e ∈ S, e.id = x := by
  by_cases h : ∃ e ∈ S, e.id = x
  · exact Or.inr h
  · exact Or.inl (fun e he hx => h ⟨e, he, hx⟩)

/-- New() -/
theorem new_any (w : World) : Calls Try.prog 11 #[] w fun e w' => ∃ g B, e = .returned (.pointer (some ⟨g, 0, none⟩)) ∧ IsAg w' g [] 0 B ∧ (∀ x ∈ B, w.heap.size ≤ x) ∧ Fr [] w w' := by
  have hmm := run_makeMap (P := Try.prog) 66
  go_enter Try.func11, Try.ntmps11
  go_wp2_with fail
  go_ret
  have hF : Fr [] w (w.alloc (.map #[] 0)) := (Fr.refl _ _).alloc _
  refine ⟨w.heap.size + 1, [w.heap.size + 1, w.heap.size], rfl, ⟨⟨w.heap.size, none, [], ⟨?_, trivial, rfl, ?_, ?_, ?_⟩, ?_, List.Perm.refl _, ?_, rfl⟩, ?_, ?_, ?_, ?_, ?_⟩, ?_, hF.alloc _⟩
  · have := heap_new (w.alloc (.map #[] 0)) (.cells #[.slice none 0 0, .map (some w.heap.size), .int .i64 0] 70)
    rw [World.size_alloc] at this
    exact this
  · intro i e hi; cases hi
  · exact List.nodup_nil
  · simp
  · intro t t0 ht; simp at ht
  · exact (MapIs.new w).fr ((Fr.refl [] _).alloc _) (by simp)
  · exact List.nodup_nil
  · intro e he; cases he
  · exact List.Pairwise.nil
  · intro e he; cases he
  · simp
  · intro x hx; simp at hx; omega

/-- Len() -/
theorem len_any {w : World} {g : Nat} {S : List Ent} {T : Nat} {B : List Nat} (h : IsAg w g S T B) : Calls Try.prog 15 #[.pointer (some ⟨g, 0, none⟩)] w fun e w' => e = .returned (.int .i64 S.length) ∧ w = w' := by
  obtain ⟨m, k, L, h1, h2, h3, h4, rfl⟩ := h.ex
  obtain ⟨p, n, c, hkv⟩ := kval_open k
  have hn : n = S.length := by
    rw [← h3.length_eq, ← h1.klen]
    cases k <;> cases hkv <;> rfl
  have c0 := h1.at0 hkv
  subst hn
  clear h h1 h2 h3 h4 hkv
  go_enter Try.func15, Try.ntmps15
  go_wp2_with fail
  go_ret
  exact ⟨rfl, rfl⟩

def atOf (S : List Ent) (x : Int) : Int := ((S.find? (fun e => e.id == x)).map Ent.tm).getD 0
/-- At(id) -/
theorem at_any {w : World} {g : Nat} {S : List Ent} {T : Nat} {B : List Nat} (h : IsAg w g S T B) {x : Int} (hx : (Lit.int .i64 x).wf = true) : Calls Try.prog 16 #[.pointer (some ⟨g, 0, none⟩), .int .i64 x] w fun e w' =>
    e = .returned (.tuple #[.int .i64 (atOf S x), .bool (mapOf S x).isSome]) ∧ w = w' := by
  obtain ⟨m, k, L, h1, h2, h3, h4, rfl⟩ := h.ex
  have hl := h4.look hx
  have c1 := h1.cell1
  rcases mapOf_cases S x with hn | ⟨e, he, rfl⟩
  · have e1 := mapOf_none.2 hn
    have e2 : atOf S x = 0 := by
      unfold atOf
      have : S.find? (fun e => e.id == x) = none := by rw [List.find?_eq_none]; simpa using hn
      rw [this]; rfl
    rw [e1] at hl ⊢
    rw [e2]
    clear h h1 h2 h3 h4
    unfold ptrV at hl
    go_enter Try.func16, Try.ntmps16
    go_wp2_with fail
    go_ret2
    exact ⟨rfl, rfl⟩
  · have e1 := mapOf_some h.ids he
    have e2 : atOf S e.id = e.tm := by unfold atOf; rw [find_id h.ids he]; rfl
    rw [e1] at hl ⊢
    rw [e2]
    obtain ⟨i, hi, hie⟩ := List.getElem_of_mem (h3.mem_iff.2 he)
    have hL : L[i]? = some e := by rw [List.getElem?_eq_getElem hi, hie]
    have c := (h1.ents i e hL).c1
    clear h h1 h2 h3 h4
    unfold ptrV at hl
    go_enter Try.func16, Try.ntmps16
    go_wp2_with fail
    go_ret2
    exact ⟨rfl, rfl⟩

/-- First() of none. -/
theorem first_nil {w : World} {g : Nat} {T : Nat} {B : List Nat} (h : IsAg w g [] T B) : Calls Try.prog 17 #[.pointer (some ⟨g, 0, none⟩)] w fun e w' =>
    e = .returned (.tuple #[.int .i64 0, .int .i64 0, .bool false]) ∧ w = w' := by
  obtain ⟨m, k, L, h1, h2, h3, h4, rfl⟩ := h.ex
  obtain ⟨p, n, c, hkv⟩ := kval_open k
  have hn : n = 0 := by
    have := h1.klen
    rw [h3.length_eq] at this
    cases k with
    | none => cases hkv; rfl
    | some q => cases hkv; exact this
  subst hn
  have c0 := h1.at0 hkv
  clear h h1 h2 h3 h4 hkv
  go_enter Try.func17, Try.ntmps17
  go_wp2_with fail
  go_ret3
  exact ⟨rfl, rfl⟩
/-- First() of some. -/
theorem first_some {w : World} {g : Nat} {S : List Ent} {T : Nat} {B : List Nat} (h : IsAg w g S T B) (hS : S ≠ []) : Calls Try.prog 17 #[.pointer (some ⟨g, 0, none⟩)] w fun x w' =>
    ∃ e m, e ∈ S ∧ (∀ f ∈ S, ¬ f.lt e) ∧ x = .returned (.tuple #[.int .i64 e.id, .int .i64 e.tm, .bool true]) ∧ w' = w.drewN m := by
  obtain ⟨m, k, L, h1, h2, h3, h4, rfl⟩ := h.ex
  have hl : 0 < L.length := by rw [h3.length_eq]; exact List.length_pos_iff.2 hS
  obtain ⟨e, hL⟩ : ∃ e, L[0]? = some e := ⟨_, List.getElem?_eq_getElem hl⟩
  have hmem : e ∈ S := h3.mem_iff.1 (List.mem_of_getElem? hL)
  have hmin : ∀ f ∈ S, ¬ f.lt e := fun f hf => by
    obtain ⟨i, hi, hie⟩ := List.getElem_of_mem (h3.mem_iff.2 hf)
    have := heap_first h2 i hi
    unfold fle at this
    rw [vw_some hL, vw_some (List.getElem?_eq_getElem hi), hie] at this
    exact this
  obtain ⟨q, rfl, hq, hql⟩ := h1.holds (by rintro rfl; simp at hl)
  have hcap := hq.capLe
  have cp := hq.cellAt 0 e.ptr (by rw [hql, List.getElem?_map, hL]; rfl)
  have hkv : kval (some q) = .slice (some ⟨q.g, q.pre.length, none⟩) L.length (q.l.length + q.spare.length) := by rw [← h1.klen]; rfl
  have c0 := h1.at0 hkv
  have d0 := (h1.ents 0 e hL).c0
  have d1 := (h1.ents 0 e hL).c1
  have hne : ((L.length : Int) == 0) = false := beq_eq_false_iff_ne.2 (by omega)
  have hpos : (0 : Int) < L.length := by omega
  have hlen := h1.len
  clear h h1 h2 h3 h4 hkv
  unfold Ent.ptr at cp
  rw [Nat.add_zero] at cp
  go_enter Try.func17, Try.ntmps17
  go_wp2_with fail
  go_quiet (fail)
  go_wp2_with fail
  go_ret3
  exact ⟨e, _, hmem, hmin, rfl, rfl⟩
end Go.Proofs.Ytjdkdakepomhdaa
