/- Where the closing of a Book's part stands. No program in sight. -/
import Derived.Test.YtjdkdakepomhdaaBook1
namespace Go.Proofs.Ytjdkdakepomhdaa
open Go.RowKit

theorem Grew.quiet {w0 w w' : World} {E : TypeId} {k lk : Option Kp} {n : Nat} {m : Value} (h : Grew w0 E k n m lk w) (hf : Fr [] w w') : Grew w0 E k n m lk w' :=
  ⟨h.base, h.l, h.ok.fr hf (by simp), h.fr.trans hf (by simp), fun k0 hk => by
    obtain ⟨t, h1, h2, h3⟩ := h.old k0 hk
    exact ⟨t, h1, h2.fr hf (by simp), h3⟩, h.new⟩
theorem MkAt.quiet {w w' : World} {E : TypeId} {B0 : Nat} {k : Option Kp} {m : Value} {cnt : Nat} {v : Value} (h : MkAt w E B0 k m cnt v) (hf : Fr [] w w') : MkAt w' E B0 k m cnt v := by
  obtain ⟨b, o, c, h1, h2, h3, h4⟩ := h
  exact ⟨b, o, c, h1, h2.fr hf List.not_mem_nil, h3.fr hf (fun _ => List.not_mem_nil), h4⟩
theorem Like.symm {a b : Option Kp} (h : Like a b) : Like b a := ⟨h.1.symm, h.2.1.symm, h.2.2.symm⟩
theorem cells_new1 (w : World) (E : TypeId) (v : Value) : Cells (w.alloc (.cells #[v] E)) ⟨w.heap.size, 0, none⟩ [v] :=
  Cells.of_blk (heap_new _ _) 0 _ (fun j u hu => by rw [Nat.zero_add, show (#[v] : Array Value) = [v].toArray from rfl, List.getElem?_toArray]; exact hu)
theorem kval_one (k : Option Kp) : ∀ v ∈ [kval k], v.oneCell' = true := fun v hv => by rw [List.mem_singleton.1 hv, kval_eq]; rfl
theorem mem_flat {ks : List (Option Kp)} {j : Nat} {k : Option Kp} (h : ks[j]? = some k) : ∀ x ∈ kg k, x ∈ ks.flatMap kg := fun _ hx =>
  List.mem_flatMap.2 ⟨k, List.mem_of_getElem? h, hx⟩
theorem flat_blk {w : World} {E : TypeId} {ks : List (Option Kp)} (h : ∀ (j : Nat) (k : Option Kp), ks[j]? = some k → kok w E k) : ∀ x ∈ ks.flatMap kg, Blk w E x := fun x hx => by
  obtain ⟨k, h1, h2⟩ := List.mem_flatMap.1 hx
  obtain ⟨j, hj⟩ := List.getElem?_of_mem h1
  exact (h j k hj).blk x h2
theorem AppR.fresh {w w' : World} {E : TypeId} {k : Option Kp} {news : List Value} {v' : Value} (h : AppR w E k news v' w') (hk : kok w E k) :
    ∃ k', v' = kval k' ∧ kok w' E k' ∧ kl k' = kl k ++ news ∧ (∀ x ∈ kg k', x ∈ kg k ∨ w.heap.size ≤ x) ∧ Fr (kg k) w w' := by
  obtain ⟨k', h1, h2, h3, h4⟩ := h.next hk
  exact ⟨k', h1, h2, h3, h4, h.fr⟩

/-- The closing of a part: from world w0 on; ks what is kept, ks' the same marked; ro, rm the rows of what was grown. -/
structure CloseSt (w0 w : World) (g o : Nat) (E T G : TypeId) (cs : List Value) (ks ks' : List (Option Kp)) (m2 : Nat → Value) (ro rm : Option Kp) (os ms : List Value) : Prop where
  blk : w.heap[g]? = some (.cells ((cs.set (o + 2) (kval ro)).set (o + 3) (kval rm)).toArray G (0, 0))
  row : kok w T ro
  rowl : kl ro = os
  mrow : kok w T rm
  mrowl : kl rm = ms
  new1 : ∀ x ∈ kg ro, w0.heap.size ≤ x
  new2 : ∀ x ∈ kg rm, w0.heap.size ≤ x
  rows : ∀ x ∈ kg rm, x ∉ kg ro
  cur : Cur w E ks'
  one : Marks w E w0.heap.size ks' m2 16 os
  many : Marks w E w0.heap.size ks' m2 700 ms
  fr : Fr (g :: ks.flatMap kg) w0 w

section
variable {w0 w w' : World} {g o : Nat} {E T G : TypeId} {cs : List Value} {ks ks' : List (Option Kp)} {m2 : Nat → Value} {ro rm : Option Kp} {os ms : List Value}
theorem CloseSt.gblk (h : CloseSt w0 w g o E T G cs ks ks' m2 ro rm os ms) : Blk w G g := ⟨_, h.blk⟩
theorem CloseSt.at0 (h : CloseSt w0 w g o E T G cs ks ks' m2 ro rm os ms) {j : Nat} {v : Value} (hj : cs[j]? = some v) (h2 : o + 2 ≠ j) (h3 : o + 3 ≠ j) : w.cell? ⟨g, j, none⟩ = some v := by
  rw [blk_cell h.blk, List.getElem?_toArray, List.getElem?_set_ne h3, List.getElem?_set_ne h2]; exact hj
theorem CloseSt.at2 (h : CloseSt w0 w g o E T G cs ks ks' m2 ro rm os ms) (hcs : o + 3 < cs.length) : w.cell? ⟨g, o + 2, none⟩ = some (kval ro) := by
  rw [blk_cell h.blk, List.getElem?_toArray, List.getElem?_set_ne (by omega), List.getElem?_set_self (by omega)]
theorem CloseSt.at3 (h : CloseSt w0 w g o E T G cs ks ks' m2 ro rm os ms) (hcs : o + 3 < cs.length) : w.cell? ⟨g, o + 3, none⟩ = some (kval rm) := by
  rw [blk_cell h.blk, List.getElem?_toArray, List.getElem?_set_self (by simp; omega)]
theorem CloseSt.free (h : CloseSt w0 w g o E T G cs ks ks' m2 ro rm os ms) (j : Nat) : w.frozen? ⟨g, j, none⟩ = false := blk_free h.blk j
/-- The beginning: all is marked. -/
theorem CloseSt.begin {mk : Nat → Value} (hg : w0.heap[g]? = some (.cells cs.toArray G (0, 0))) (hgS : g ∉ ks.flatMap kg) (hc2 : cs[o + 2]? = some (.slice none 0 0)) (hc3 : cs[o + 3]? = some (.slice none 0 0))
    (hph : Ph w E ks mk ks.length 0) (hf : Fr (ks.flatMap kg) w0 w) : CloseSt w0 w g o E T G cs ks (marked mk ks) m2 none none [] [] := by
  have e2 : cs.set (o + 2) (kval none) = cs := by
    apply List.ext_getElem?
    intro j
    rw [List.getElem?_set]
    split
    · rename_i h; subst h; rw [hc2, if_pos (List.getElem?_eq_some_iff.1 hc2).1]; rfl
    · rfl
  have e3 : cs.set (o + 3) (kval none) = cs := by
    apply List.ext_getElem?
    intro j
    rw [List.getElem?_set]
    split
    · rename_i h; subst h; rw [hc3, if_pos (List.getElem?_eq_some_iff.1 hc3).1]; rfl
    · rfl
  refine ⟨?_, trivial, rfl, trivial, rfl, fun _ h => by simp [kg] at h, fun _ h => by simp [kg] at h, fun _ h => by simp [kg] at h, hph.done, Marks.nil, Marks.nil, hf.mono (fun x hx => Or.inl (List.mem_cons_of_mem _ hx))⟩
  rw [e2, e3]; exact hf.heap hg hgS
theorem CloseSt.quiet (h : CloseSt w0 w g o E T G cs ks ks' m2 ro rm os ms) (hf : Fr [] w w') : CloseSt w0 w' g o E T G cs ks ks' m2 ro rm os ms :=
  ⟨hf.heap h.blk (by simp), h.row.fr hf (by simp), h.rowl, h.mrow.fr hf (by simp), h.mrowl, h.new1, h.new2, h.rows,
    fun j k hk => by obtain ⟨k', h1, h2⟩ := h.cur j k hk; exact ⟨k', h1, h2.fr hf (by simp)⟩,
    fun j v hv => by
      obtain ⟨k, h1, b, o, c, h2, h3, h4, h5⟩ := h.one j v hv
      exact ⟨k, h1, b, o, c, h2, h3.fr hf (by simp), h4.fr hf (fun _ => List.not_mem_nil), h5⟩,
    fun j v hv => by
      obtain ⟨k, h1, b, o, c, h2, h3, h4, h5⟩ := h.many j v hv
      exact ⟨k, h1, b, o, c, h2, h3.fr hf (by simp), h4.fr hf (fun _ => List.not_mem_nil), h5⟩,
    h.fr.trans hf (by simp)⟩
theorem CloseSt.grew (h : CloseSt w0 w g o E T G cs ks ks' m2 ro rm os ms) (hET : E ≠ T) (hEG : E ≠ G) (ha : Apart ks') (hsub : ∀ (j : Nat) (k : Option Kp), ks'[j]? = some k → ∀ x ∈ kg k, x ∈ ks.flatMap kg ∧ x < w0.heap.size)
    {i n : Nat} {k k0 lk : Option Kp} (hi : ks'[i]? = some k) (hl : Like k k0) (hg : Grew w E k0 n (m2 i) lk w') : CloseSt w0 w' g o E T G cs ks ks' m2 ro rm os ms := by
  have hS : ∀ x ∈ kg k0, Blk w E x := hg.base.blk
  have hG : g ∉ kg k0 := far hS hEG.symm h.gblk
  refine ⟨hg.fr.heap h.blk hG, h.row.fr hg.fr (fun x hx => far hS hET.symm (h.row.blk x hx)), h.rowl, h.mrow.fr hg.fr (fun x hx => far hS hET.symm (h.mrow.blk x hx)), h.mrowl, h.new1, h.new2, h.rows, h.cur.grew hi hl hg ha,
    h.one.grew hi hl hg ha (fun x hx => (hsub i k hi x hx).2), h.many.grew hi hl hg ha (fun x hx => (hsub i k hi x hx).2), h.fr.trans hg.fr ?_⟩
  intro x hx
  rw [← hl.kg] at hx
  exact Or.inl (List.mem_cons_of_mem _ (hsub i k hi x hx).1)
theorem CloseSt.one1 (h : CloseSt w0 w g o E T G cs ks ks' m2 ro rm os ms) (hET : E ≠ T) (hEG : E ≠ G) (hTG : T ≠ G) {k : Option Kp} {v v' : Value}
    (hi : ks'[os.length]? = some k) (hv : MkAt w E w0.heap.size k (m2 os.length) 16 v) (ha : AppR w T ro [v] v' w') :
    ∃ ro', v' = kval ro' ∧ CloseSt w0 (w'.setCell ⟨g, o + 2, none⟩ v') g o E T G cs ks ks' m2 ro' rm (os ++ [v]) ms := by
  obtain ⟨ro', rfl, h2, h3, h4, h5⟩ := ha.fresh h.row
  have hS := h.row.blk
  have hG : g ∉ kg ro := far hS hTG.symm h.gblk
  have hb := h5.heap h.blk hG
  have hF : Fr [g] w' (w'.setCell ⟨g, o + 2, none⟩ (kval ro')) := Fr.set (Fr.refl _ _) (by simp) _
  have hSg : ∀ x ∈ [g], Blk w' G x := fun x hx => by rw [List.mem_singleton.1 hx]; exact ⟨_, hb⟩
  have h0 := h.fr.size
  have hmr : kok w' T rm := h.mrow.fr h5 h.rows
  refine ⟨ro', rfl, ?_, h2.fr hF (fun x hx => far hSg hTG (h2.blk x hx)), by rw [h3, h.rowl], hmr.fr hF (fun x hx => far hSg hTG (hmr.blk x hx)), h.mrowl, ?_, h.new2, ?_,
    (h.cur.fr h5 hS hET).fr hF hSg hEG, (Marks.fr (h.one.snoc hi hv) h5 hS hET).fr hF hSg hEG, (Marks.fr h.many h5 hS hET).fr hF hSg hEG, ?_⟩
  · rw [blk_set hb]
    congr 2
    rw [List.setIfInBounds_toArray, List.set_comm _ _ (by omega), List.set_set, List.set_comm _ _ (by omega)]
  · intro x hx
    rcases h4 x hx with h6 | h6
    · exact h.new1 x h6
    · omega
  · intro x hx hx'
    rcases h4 x hx' with h6 | h6
    · exact h.rows x hx h6
    · have := (h.mrow.blk x hx).lt
      omega
  · refine (h.fr.trans h5 (fun x hx => Or.inr (h.new1 x hx))).trans hF ?_
    intro x hx
    rw [List.mem_singleton.1 hx]
    exact Or.inl (by simp)
theorem CloseSt.many1 (h : CloseSt w0 w g o E T G cs ks ks' m2 ro rm os ms) (hET : E ≠ T) (hEG : E ≠ G) (hTG : T ≠ G) {k : Option Kp} {v v' : Value}
    (hi : ks'[ms.length]? = some k) (hv : MkAt w E w0.heap.size k (m2 ms.length) 700 v) (ha : AppR w T rm [v] v' w') :
    ∃ rm', v' = kval rm' ∧ CloseSt w0 (w'.setCell ⟨g, o + 3, none⟩ v') g o E T G cs ks ks' m2 ro rm' os (ms ++ [v]) := by
  obtain ⟨rm', rfl, h2, h3, h4, h5⟩ := ha.fresh h.mrow
  have hS := h.mrow.blk
  have hG : g ∉ kg rm := far hS hTG.symm h.gblk
  have hb := h5.heap h.blk hG
  have hF : Fr [g] w' (w'.setCell ⟨g, o + 3, none⟩ (kval rm')) := Fr.set (Fr.refl _ _) (by simp) _
  have hSg : ∀ x ∈ [g], Blk w' G x := fun x hx => by rw [List.mem_singleton.1 hx]; exact ⟨_, hb⟩
  have h0 := h.fr.size
  have hmr : kok w' T ro := h.row.fr h5 (fun x hx hx' => h.rows x hx' hx)
  refine ⟨rm', rfl, ?_, hmr.fr hF (fun x hx => far hSg hTG (hmr.blk x hx)), h.rowl, h2.fr hF (fun x hx => far hSg hTG (h2.blk x hx)), by rw [h3, h.mrowl], h.new1, ?_, ?_,
    (h.cur.fr h5 hS hET).fr hF hSg hEG, (Marks.fr h.one h5 hS hET).fr hF hSg hEG, (Marks.fr (h.many.snoc hi hv) h5 hS hET).fr hF hSg hEG, ?_⟩
  · rw [blk_set hb]
    congr 2
    rw [List.setIfInBounds_toArray, List.set_set]
  · intro x hx
    rcases h4 x hx with h6 | h6
    · exact h.new2 x h6
    · omega
  · intro x hx hx'
    rcases h4 x hx with h6 | h6
    · exact h.rows x h6 hx'
    · have := (h.row.blk x hx').lt
      omega
  · refine (h.fr.trans h5 (fun x hx => Or.inr (h.new2 x hx))).trans hF ?_
    intro x hx
    rw [List.mem_singleton.1 hx]
    exact Or.inl (by simp)
end
end Go.Proofs.Ytjdkdakepomhdaa
