/- Package agenda: the row of entries, its five methods. -/
import Derived.Test.YtjdkdakepomhdaaAgA
import Derived.Test.YtjdkdakepomhdaaBook0
namespace Go.Proofs.Ytjdkdakepomhdaa
open Go.RowKit

/-- An agenda's object and its row of entries. -/
structure AgRow (w : World) (g m : Nat) (T : Int) (k : Option Kp) (L : List Ent) : Prop where
  obj : w.heap[g]? = some (.cells #[kval k, .map (some m), .int .i64 T] 70 (0, 0))
  ok : kok w 71 k
  l : kl k = L.map Ent.ptr
  ents : ∀ (i : Nat) (e : Ent), L[i]? = some e → e.Lies w i
  nd : (L.map Ent.blk).Nodup
  len : L.length ≤ 100000

/-- The blocks of a row. -/
def rowB (k : Option Kp) (L : List Ent) : List Nat := kg k ++ L.map Ent.blk

section
variable {w : World} {g m : Nat} {T : Int} {k : Option Kp} {L : List Ent}

theorem klen_val (k : Option Kp) : kval k = match k with | none => .slice none 0 0 | some k => k.val := by cases k <;> rfl
theorem AgRow.klen (h : AgRow w g m T k L) : (kl k).length = L.length := by rw [h.l]; simp
theorem AgRow.cell0 (h : AgRow w g m T k L) : w.cell? ⟨g, 0, none⟩ = some (kval k) := blk_cell' h.obj rfl
theorem AgRow.cell2 (h : AgRow w g m T k L) : w.cell? ⟨g, 2, none⟩ = some (.int .i64 T) := blk_cell' h.obj rfl
theorem AgRow.cell1 (h : AgRow w g m T k L) : w.cell? ⟨g, 1, none⟩ = some (.map (some m)) := blk_cell' h.obj rfl
theorem AgRow.free (h : AgRow w g m T k L) (i : Nat) : w.frozen? ⟨g, i, none⟩ = false := blk_free h.obj i
theorem AgRow.g_row (h : AgRow w g m T k L) : g ∉ rowB k L := by
  intro hm
  rcases List.mem_append.1 hm with hm | hm
  · cases k with
    | none => cases hm
    | some k =>
      obtain rfl : g = k.g := by simpa [kg] using hm
      have := h.obj.symm.trans (Kp.Lies.heap h.ok)
      simp at this
  · obtain ⟨e, he, rfl⟩ := List.mem_map.1 hm
    obtain ⟨i, hi, rfl⟩ := List.getElem_of_mem he
    have := h.obj.symm.trans (h.ents i _ (List.getElem?_eq_getElem hi))
    simp at this
theorem AgRow.apart (h : AgRow w g m T k L) : ∀ e ∈ L, e.blk ∉ kg k := by
  intro e he hm
  obtain ⟨i, hi, rfl⟩ := List.getElem_of_mem he
  have h1 := h.ents i _ (List.getElem?_eq_getElem hi)
  cases k with
  | none => cases hm
  | some k =>
    have e1 : L[i].blk = k.g := by simpa [kg] using hm
    unfold Ent.Lies at h1
    rw [e1] at h1
    have := h1.symm.trans (Kp.Lies.heap h.ok)
    simp at this
theorem AgRow.lt (h : AgRow w g m T k L) : ∀ x ∈ g :: rowB k L, x < w.heap.size := by
  intro x hx
  rcases List.mem_cons.1 hx with rfl | hx
  · exact lt_of_heap h.obj
  · rcases List.mem_append.1 hx with hx | hx
    · exact h.ok.lt x hx
    · obtain ⟨e, he, rfl⟩ := List.mem_map.1 hx
      obtain ⟨i, hi, rfl⟩ := List.getElem_of_mem he
      exact lt_of_heap (h.ents i _ (List.getElem?_eq_getElem hi))
theorem AgRow.fr {S : List Nat} {w' : World} (h : AgRow w g m T k L) (hf : Fr S w w') (hs : ∀ x ∈ g :: rowB k L, x ∉ S) : AgRow w' g m T k L :=
  ⟨hf.heap h.obj (hs _ List.mem_cons_self), h.ok.fr hf (fun x hx => hs x (List.mem_cons_of_mem _ (List.mem_append_left _ hx))), h.l,
    fun i e hi => hf.heap (h.ents i e hi) (hs _ (List.mem_cons_of_mem _ (List.mem_append_right _ (List.mem_map_of_mem (List.mem_of_getElem? hi))))), h.nd, h.len⟩
/-- The row as a slice of a block, where it holds something. -/
theorem AgRow.holds (h : AgRow w g m T k L) (hL : L ≠ []) : ∃ q : Kp, k = some q ∧ q.Lies w 71 ∧ q.l = L.map Ent.ptr := by
  cases k with
  | none => exact absurd (List.map_eq_nil_iff.1 h.l.symm) hL
  | some q => exact ⟨q, rfl, h.ok, h.l⟩
end

/-- len(r) -/
theorem rlen_any {w : World} {g m : Nat} {T : Int} {k : Option Kp} {L : List Ent} (h : AgRow w g m T k L) : Calls Try.prog 85 #[kval k] w fun e w' => e = .returned (.int .i64 L.length) ∧ w = w' := by
  obtain ⟨p, n, c, hk, hn⟩ : ∃ p n c, kval k = .slice p n c ∧ n = L.length := by
    have := h.klen
    cases k with
    | none => exact ⟨_, _, _, rfl, this⟩
    | some q => exact ⟨_, _, _, rfl, this⟩
  rw [hk]
  go_enter Try.func85, Try.ntmps85
  go_wp2_with fail
  go_ret
  exact ⟨rfl, rfl⟩

set_option maxHeartbeats 1000000 in
/-- r.Less(i, j) -/
theorem rless_any {w : World} {g m : Nat} {T : Int} {k : Option Kp} {L : List Ent} (h : AgRow w g m T k L) (i j : Nat) (a b : Ent) (hi : L[i]? = some a) (hj : L[j]? = some b) :
    Calls Try.prog 86 #[kval k, .int .i64 i, .int .i64 j] w fun e w' => e = .returned (.bool (decide (a.lt b))) ∧ Fr [] w w' := by
  have hii := (List.getElem?_eq_some_iff.1 hi).1
  have hjj := (List.getElem?_eq_some_iff.1 hj).1
  obtain ⟨q, rfl, hq, hql⟩ := h.holds (by rintro rfl; simp at hii)
  have ca := hq.cellAt i a.ptr (by rw [hql, List.getElem?_map, hi]; rfl)
  have cb := hq.cellAt j b.ptr (by rw [hql, List.getElem?_map, hj]; rfl)
  have a1 := (h.ents i a hi).c1
  have a2 := (h.ents i a hi).c2
  have b1 := (h.ents j b hj).c1
  have b2 := (h.ents j b hj).c2
  have hd := ordI_lt a b
  have hn : q.l.length = L.length := by rw [hql]; simp
  have hlen := h.len
  unfold Ent.ptr at ca cb
  rw [show kval (some q) = .slice (some ⟨q.g, q.pre.length, none⟩) L.length (q.l.length + q.spare.length) by rw [← hn]; rfl]
  have i1 : ¬ ((i : Int) < 0) := by omega
  have i2 : (i : Int) < L.length := by omega
  have j1 : ¬ ((j : Int) < 0) := by omega
  have j2 : (j : Int) < L.length := by omega
  clear h hq hql hi hj hn
  go_enter Try.func86, Try.ntmps86
  go_wp2_with fail
  go_region_held3 (fun w' => w'.cell? ⟨q.g, q.pre.length + i, none⟩ = some (.pointer (some ⟨a.blk, 0, none⟩)) ∧ w'.cell? ⟨q.g, q.pre.length + j, none⟩ = some (.pointer (some ⟨b.blk, 0, none⟩))) (first | go_keep | exact ⟨hfr.cell ca (by simp), hfr.cell cb (by simp)⟩) (first | (go_at_call 38; refine (order_any w.drew _ _ _ _ _ _ a1 a2 b1 b2).mono ?_; rintro e w' ⟨rfl, hfr⟩))
  go_wp2_with fail
  go_ret
  exact ⟨rfl, (Fr.refl [] w).drew.trans hfr (by simp)⟩

end Go.Proofs.Ytjdkdakepomhdaa
