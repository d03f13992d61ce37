/- Package agenda: Set. -/
import Derived.Test.YtjdkdakepomhdaaAgQ
namespace Go.Proofs.Ytjdkdakepomhdaa
open Go.RowKit

theorem AgRow.drew {w : World} {g m : Nat} {T : Int} {k : Option Kp} {L : List Ent} (h : AgRow w g m T k L) : AgRow w.drew g m T k L := h.same rfl
theorem AgRow.bump {w : World} {g m : Nat} {T : Int} {k : Option Kp} {L : List Ent} (h : AgRow w g m T k L) (T' : Int) : AgRow (w.setCell ⟨g, 2, none⟩ (.int .i64 T')) g m T' k L := by
  have hf : Fr [g] w (w.setCell ⟨g, 2, none⟩ (.int .i64 T')) := (Fr.refl _ _).set (by simp) _
  have hg : ∀ x ∈ rowB k L, x ∉ [g] := fun x hx hm => h.g_row (by obtain rfl : x = g := by simpa using hm
                                                                  exact hx)
  exact ⟨blk_set h.obj 2 _, h.ok.fr hf (fun x hx => hg x (List.mem_append_left _ hx)), h.l, fun i e hi => hf.heap (h.ents i e hi) (hg _ (List.mem_append_right _ (List.mem_map_of_mem (List.mem_of_getElem? hi)))), h.nd, h.len⟩
theorem AgRow.upd {w : World} {g m : Nat} {T : Int} {k : Option Kp} {L : List Ent} (h : AgRow w g m T k L) {i : Nat} {e : Ent} (hi : L[i]? = some e) (t u : Int) :
    AgRow ((w.setCell ⟨e.blk, 1, none⟩ (.int .i64 t)).setCell ⟨e.blk, 2, none⟩ (.int .i64 u)) g m T k (L.set i ⟨e.blk, e.id, t, u⟩) ∧ Fr [e.blk] w ((w.setCell ⟨e.blk, 1, none⟩ (.int .i64 t)).setCell ⟨e.blk, 2, none⟩ (.int .i64 u)) := by
  have hii := (List.getElem?_eq_some_iff.1 hi).1
  have hf : Fr [e.blk] w ((w.setCell ⟨e.blk, 1, none⟩ (.int .i64 t)).setCell ⟨e.blk, 2, none⟩ (.int .i64 u)) := ((Fr.refl _ _).set (by simp) _).set (by simp) _
  have hm : e ∈ L := List.mem_of_getElem? hi
  have hb : (L.set i ⟨e.blk, e.id, t, u⟩).map Ent.blk = L.map Ent.blk := by
    rw [List.map_set]
    apply List.ext_getElem?
    intro j
    by_cases e1 : i = j
    · subst e1; rw [List.getElem?_set_self (by simpa using hii), List.getElem?_map, hi]; rfl
    · rw [List.getElem?_set_ne e1]
  refine ⟨⟨hf.heap h.obj (fun hx => h.g_row ?_), h.ok.fr hf (fun x hx hx2 => h.apart e hm ?_), ?_, ?_, by rw [hb]; exact h.nd, by rw [List.length_set]; exact h.len⟩, hf⟩
  · obtain rfl : g = e.blk := by simpa using hx
    exact List.mem_append_right _ (List.mem_map_of_mem hm)
  · obtain rfl : x = e.blk := by simpa using hx2
    exact hx
  · rw [h.l, List.map_set]
    apply List.ext_getElem?
    intro j
    by_cases e1 : i = j
    · subst e1; rw [List.getElem?_set_self (by simpa using hii), List.getElem?_map, hi]; rfl
    · rw [List.getElem?_set_ne e1]
  · intro j f hj
    by_cases e1 : i = j
    · subst e1
      rw [List.getElem?_set_self hii] at hj
      obtain rfl := Option.some.inj hj
      exact blk_set (blk_set (h.ents i e hi) 1 _) 2 _
    · rw [List.getElem?_set_ne e1] at hj
      exact hf.heap (h.ents j f hj) (by simpa using h.blk_ne hj hi (Ne.symm e1))

theorem mapOf_set (S : List Ent) (e : Ent) (y : Int) : mapOf (S.filter (notId e.id) ++ [e]) y = if y = e.id then some e.blk else mapOf S y := by
  by_cases h : y = e.id
  · subst h
    rw [if_pos rfl]
    have : mapOf (S.filter (notId e.id)) e.id = none := by rw [mapOf_drop, if_pos rfl]
    unfold mapOf at this ⊢
    rw [Option.map_eq_none_iff] at this
    rw [List.find?_append, this]
    simp
  · rw [if_neg h]
    have h1 := mapOf_drop S e.id y
    rw [if_neg h] at h1
    rw [← h1]
    unfold mapOf
    rw [List.find?_append, List.find?_cons_of_neg (by simpa using (Ne.symm h))]
    simp
/-- The entries behind Set. -/
def setS (S : List Ent) (e : Ent) : List Ent := S.filter (notId e.id) ++ [e]
theorem IsAg.setted {w w' : World} {g : Nat} {S : List Ent} {T : Nat} {B B' : List Nat} (h : IsAg w g S T B) (e : Ent) (ht : e.turn = T + 1) (hw : (Lit.int .i64 e.id).wf = true)
    (hx : ∃ m k L, AgRow w' g m (T + 1 : Nat) k L ∧ HeapF L.length (vw L) ∧ L.Perm (setS S e) ∧ MapIs w' m (T + 1) (mapOf (setS S e)) ∧ B' = g :: m :: rowB k L) : IsAg w' g (setS S e) (T + 1) B' := by
  refine ⟨hx, ?_, ?_, ?_, ?_, ?_⟩
  · unfold setS
    rw [List.map_append, List.nodup_append]
    refine ⟨((List.filter_sublist (l := S)).map _).nodup h.ids, by simp, fun a ha b hb => ?_⟩
    obtain ⟨f, hf, rfl⟩ := List.mem_map.1 ha
    obtain rfl : b = e.id := by simpa using hb
    simpa [notId] using (List.mem_filter.1 hf).2
  · intro f hf
    rcases List.mem_append.1 hf with hf | hf
    · exact h.wf f (List.mem_filter.1 hf).1
    · obtain rfl : f = e := by simpa using hf
      exact hw
  · unfold setS
    rw [List.pairwise_append]
    refine ⟨h.turns.filter _, by simp, fun a ha b hb => ?_⟩
    obtain rfl : b = e := by simpa using hb
    have := h.top a (List.mem_filter.1 ha).1
    omega
  · intro f hf
    rcases List.mem_append.1 hf with hf | hf
    · have := h.top f (List.mem_filter.1 hf).1; omega
    · obtain rfl : f = e := by simpa using hf
      omega
  · unfold setS
    have h1 := List.length_filter_le (notId e.id) S
    have h2 := h.size
    rw [List.length_append, List.length_singleton]; omega

set_option maxRecDepth 100000 in
set_option maxHeartbeats 2000000 in
/-- Set(id, at) where id is there. -/
theorem set_old {w : World} {g : Nat} {S : List Ent} {T : Nat} {B : List Nat} (h : IsAg w g S T B) (hT : T < 5000) {e : Ent} (he : e ∈ S) (t : Int) : Calls Try.prog 13 #[.pointer (some ⟨g, 0, none⟩), .int .i64 e.id, .int .i64 t] w fun x w' =>
    x = .returned (.tuple #[]) ∧ ∃ B' b, IsAg w' g (setS S ⟨b, e.id, t, T + 1⟩) (T + 1) B' ∧ (∀ x ∈ B', x ∈ B ∨ w.heap.size ≤ x) ∧ Fr B w w' := by
  obtain ⟨m, k, L, h1, h2, h3, h4, rfl⟩ := h.ex
  obtain ⟨i, hi, hie⟩ := List.getElem_of_mem (h3.mem_iff.2 he)
  have hL : L[i]? = some e := by rw [List.getElem?_eq_getElem hi, hie]
  have hmr := h1.m_row h4
  have F1 : Fr [g] w (w.setCell ⟨g, 2, none⟩ (.int .i64 (T + 1))) := (Fr.refl _ _).set (by simp) _
  have h4' := h4.fr F1 (fun hm => hmr (by obtain rfl : m = g := by simpa using hm
                                          exact List.mem_cons_self))
  have hl := h4'.look (h.wf e he)
  rw [mapOf_some h.ids he] at hl
  have c1 := h1.cell1
  have c2 := h1.cell2
  have f2 := h1.free 2
  have r1 := h1.bump (T + 1)
  have d2 := r1.cell2
  have d1 := r1.cell1
  have e1 := (r1.ents i e hL).c1
  have e2 := (r1.ents i e hL).c2
  have e3 := (r1.ents i e hL).c3
  have ef1 := blk_free (r1.ents i e hL) 1
  have ef2 := blk_free (r1.ents i e hL) 2
  obtain ⟨r3, F3⟩ := r1.upd hL t (T + 1)
  have k3 : (((w.setCell ⟨g, 2, none⟩ (.int .i64 (T + 1))).setCell ⟨e.blk, 1, none⟩ (.int .i64 t)).setCell ⟨e.blk, 2, none⟩ (.int .i64 (T + 1))).cell? ⟨e.blk, 3, none⟩ = some (.int .i64 i) := (r3.ents i ⟨e.blk, e.id, t, T + 1⟩ (by rw [List.getElem?_set_self hi])).c3
  have HX := Lib.hid (fix_any r3.drew i (by simpa using hi) (by rw [List.length_set]; exact heap_fix h2 hi (fun s _ hs => by unfold vw; rw [List.getElem?_set_ne (Ne.symm hs)])))
  have hwr : wrap64 ((T : Int) + 1) = T + 1 := by rw [IntWalk.wrap64_in] <;> omega
  have hg1 : e.blk ≠ g := fun hh => h1.g_row (List.mem_append_right _ (hh ▸ List.mem_map_of_mem (List.mem_of_getElem? hL)))
  have H := Lib.hid h
  have H1 := Lib.hid h1
  have H3 := Lib.hid h3
  have H4 := Lib.hid (h4'.fr F3 (fun hm => hmr (by
    obtain rfl : m = e.blk := by simpa using hm
    exact List.mem_cons_of_mem _ (List.mem_append_right _ (List.mem_map_of_mem (List.mem_of_getElem? hL))))))
  have HF1 := Lib.hid F1
  have HF3 := Lib.hid F3
  have HM := Lib.hid hmr
  have HE := Lib.hid he
  have HL := Lib.hid hL
  clear h h1 h2 h3 h4 h4' r1 r3 F1 F3 hmr
  unfold ptrV at hl
  go_enter Try.func13, Try.ntmps13
  go_wp2_with fail
  refine wp_region_G (n := 8) (S := fun w' => w'.cell? ⟨e.blk, 3, none⟩ = some (.int .i64 i)) (by kernel_rfl) (by exact k3) (fun hHeld => ?_)
-- 9 operations
  refine wpG_take (i := 0) (oi := ⟨some 36, _, _, _, _, _⟩) (v := ?v0) rfl (by kernel_rfl) (by kernel_rfl) (fun _ _ _ h => h) (Or.inl ⟨by rfl, ?hy0⟩) (by assumption) ?rest0
  case hy0 => (intro w hSw; (try dsimp only at hSw); go_simp; try with_reducible rfl)
  try simp only [Act.put, List.setIfInBounds_toArray, List.set_cons_zero, List.set_cons_succ]
  refine wpG_take (i := 1) (oi := ⟨some 37, _, _, _, _, _⟩) (v := ?v1) rfl (by kernel_rfl) (by kernel_rfl) (fun _ _ _ h => h) (Or.inl ⟨by rfl, ?hy1⟩) (by assumption) ?rest1
  case hy1 => (intro w hSw; (try dsimp only at hSw); go_simp; try with_reducible rfl)
  try simp only [Act.put, List.setIfInBounds_toArray, List.set_cons_zero, List.set_cons_succ]
  refine wpG_take (i := 2) (oi := ⟨some 38, _, _, _, _, _⟩) (v := ?v2) rfl (by kernel_rfl) (by kernel_rfl) (fun _ _ _ h => h) (Or.inl ⟨by rfl, ?hy2⟩) (by assumption) ?rest2
  case hy2 => (intro w hSw; (try dsimp only at hSw); go_simp; try with_reducible rfl)
  try simp only [Act.put, List.setIfInBounds_toArray, List.set_cons_zero, List.set_cons_succ]
  refine wpG_take (i := 3) (oi := ⟨some 39, _, _, _, _, _⟩) (v := ?v3) rfl (by kernel_rfl) (by kernel_rfl) (fun _ _ _ h => h) (Or.inl ⟨by rfl, ?hy3⟩) (by assumption) ?rest3
  case hy3 => (intro w hSw; (try dsimp only at hSw); go_simp; try with_reducible rfl)
  try simp only [Act.put, List.setIfInBounds_toArray, List.set_cons_zero, List.set_cons_succ]
  refine wpG_take (i := 4) (oi := ⟨some 40, _, _, _, _, _⟩) (v := ?v4) rfl (by kernel_rfl) (by kernel_rfl) (fun _ _ _ h => h) (Or.inl ⟨by rfl, ?hy4⟩) (by assumption) ?rest4
  case hy4 => (intro w hSw; (try dsimp only at hSw); go_simp; try with_reducible rfl)
  try simp only [Act.put, List.setIfInBounds_toArray, List.set_cons_zero, List.set_cons_succ]
  refine wpG_take (i := 5) (oi := ⟨some 41, _, _, _, _, _⟩) (v := ?v5) rfl (by kernel_rfl) (by kernel_rfl) (fun _ _ _ h => h) (Or.inl ⟨by rfl, ?hy5⟩) (by assumption) ?rest5
  case hy5 => (intro w hSw; (try dsimp only at hSw); go_simp; try with_reducible rfl)
  try simp only [Act.put, List.setIfInBounds_toArray, List.set_cons_zero, List.set_cons_succ]
  refine wpG_take (i := 6) (oi := ⟨some 42, _, _, _, _, _⟩) (v := ?v6) rfl (by kernel_rfl) (by kernel_rfl) (fun _ _ _ h => h) (Or.inl ⟨by rfl, ?hy6⟩) (by assumption) ?rest6
  case hy6 => (intro w hSw; (try dsimp only at hSw); go_simp; try with_reducible rfl)
  try simp only [Act.put, List.setIfInBounds_toArray, List.set_cons_zero, List.set_cons_succ]
  refine wpG_take (i := 7) (oi := ⟨some 43, _, _, _, _, _⟩) (v := ?v7) rfl (by kernel_rfl) (by kernel_rfl) (fun _ _ _ h => h) (Or.inl ⟨by rfl, ?hy7⟩) (by assumption) ?rest7
  case hy7 => (intro w hSw; (try dsimp only at hSw); go_simp; try with_reducible rfl)
  try simp only [Act.put, List.setIfInBounds_toArray, List.set_cons_zero, List.set_cons_succ]
  refine wpG_ready (rs := [8]) (by kernel_rfl) (by simp) (AllReadyG.cons (o := ⟨some 44, _, _, _, _, _⟩) rfl (fun K hK => ?_) AllReadyG.nil)
  go_simp
  refine HX.out.mono ?_
  rintro v w4 ⟨rfl, k2, L2, hs2, hh2⟩
  have HS2 := Lib.hid hs2
  have HH2 := Lib.hid hh2
  clear hs2 hh2
  refine hK.out _ _ (fun h => absurd h (by decide)) (fun _ => ?_)
  clear hK K
  try simp only [Act.put, List.setIfInBounds_toArray, List.set_cons_zero, List.set_cons_succ]
  refine wpG_done (by kernel_rfl) ?_ _
  go_wp2_with fail
  refine bodyPost_ret (results_none rfl _ _ _) rfl ?_
  have hl := HL.out
  obtain ⟨pa, pb⟩ := perm_at hl ⟨e.blk, e.id, t, T + 1⟩
  have p1 : (L.eraseIdx i).Perm (S.filter (notId e.id)) := perm_drop (H3.out.symm.trans pa) H.out.ids
  have p2 : L2.Perm (setS S ⟨e.blk, e.id, t, T + 1⟩) := HS2.out.perm.trans (pb.trans ((p1.cons _).trans (List.perm_append_singleton _ _).symm))
  have hb : ∀ y, y ∈ rowB k (L.set i ⟨e.blk, e.id, t, T + 1⟩) → y ∈ rowB k L := fun y hy => by
    rcases List.mem_append.1 hy with hy | hy
    · exact List.mem_append_left _ hy
    · obtain ⟨f, hf, rfl⟩ := List.mem_map.1 hy
      rcases List.mem_or_eq_of_mem_set hf with h1 | h1
      · exact List.mem_append_right _ (List.mem_map_of_mem h1)
      · subst h1; exact List.mem_append_right _ (List.mem_map.2 ⟨e, List.mem_of_getElem? hl, rfl⟩)
  have hb2 : ∀ y, y ∈ rowB k2 L2 → y ∈ rowB k L := fun y hy => hb y ((rowB_perm HS2.out.skg HS2.out.perm y).1 hy)
  have FF : Fr (g :: m :: rowB k L) w w4 := by
    have f1 : Fr (g :: m :: rowB k L) w _ := (HF1.out.mono (T := g :: m :: rowB k L) (by simp)).trans HF3.out (fun y hy => Or.inl (by
      obtain rfl : y = e.blk := by simpa using hy
      exact List.mem_cons_of_mem _ (List.mem_cons_of_mem _ (List.mem_append_right _ (List.mem_map_of_mem (List.mem_of_getElem? hl))))))
    exact f1.drew.trans HS2.out.fr (fun y hy => Or.inl (List.mem_cons_of_mem _ (List.mem_cons_of_mem _ (hb y hy))))
  refine ⟨rfl, g :: m :: rowB k2 L2, e.blk, H.out.setted ⟨e.blk, e.id, t, T + 1⟩ rfl (H.out.wf e HE.out) ⟨m, k2, L2, HS2.out.row, ?_, p2, ?_, rfl⟩, fun y hy => Or.inl ?_, FF⟩
  · have := HH2.out
    rw [List.length_set] at this
    rw [HS2.out.len, List.length_set]; exact this
  · have F4 : Fr (rowB k (L.set i ⟨e.blk, e.id, t, T + 1⟩)) _ w4 := ((Fr.refl [] _).drew.mono (T := rowB k (L.set i ⟨e.blk, e.id, t, T + 1⟩)) (by simp)).trans HS2.out.fr (fun y hy => Or.inl hy)
    refine MapIs.congr ((H4.out.mono (Nat.le_succ T)).fr F4 (fun hm => HM.out (List.mem_cons_of_mem _ (hb m hm)))) (fun y _ => ?_)
    unfold setS
    rw [mapOf_set]
    split
    · rename_i hy; subst hy; exact (mapOf_some H.out.ids HE.out).symm
    · rfl
  · rcases List.mem_cons.1 hy with hy | hy
    · exact hy ▸ List.mem_cons_self
    · rcases List.mem_cons.1 hy with hy | hy
      · exact hy ▸ List.mem_cons_of_mem _ List.mem_cons_self
      · exact List.mem_cons_of_mem _ (List.mem_cons_of_mem _ (hb2 y hy))

set_option maxRecDepth 100000 in
set_option maxHeartbeats 2000000 in
/-- Set(id, at) where id is not there. -/
theorem set_new {w : World} {g : Nat} {S : List Ent} {T : Nat} {B : List Nat} (h : IsAg w g S T B) (hT : T < 900) {x : Int} (hx : (Lit.int .i64 x).wf = true) (hn : ∀ e ∈ S, e.id ≠ x) (t : Int) : Calls Try.prog 13 #[.pointer (some ⟨g, 0, none⟩), .int .i64 x, .int .i64 t] w fun v w' =>
    v = .returned (.tuple #[]) ∧ ∃ B' b, IsAg w' g (setS S ⟨b, x, t, T + 1⟩) (T + 1) B' ∧ (∀ x ∈ B', x ∈ B ∨ w.heap.size ≤ x) ∧ Fr B w w' := by
  obtain ⟨m, k, L, h1, h2, h3, h4, rfl⟩ := h.ex
  have hmr := h1.m_row h4
  have F1 : Fr [g] w (w.setCell ⟨g, 2, none⟩ (.int .i64 (T + 1))) := (Fr.refl _ _).set (by simp) _
  have h4' := h4.fr F1 (fun hm => hmr (by obtain rfl : m = g := by simpa using hm
                                          exact List.mem_cons_self))
  have hl := h4'.look hx
  rw [mapOf_none.2 hn] at hl
  have c1 := h1.cell1
  have c2 := h1.cell2
  have f2 := h1.free 2
  have r1 := h1.bump (T + 1)
  have d2 := r1.cell2
  have d1 := r1.cell1
  have hwr : wrap64 ((T : Int) + 1) = T + 1 := by rw [IntWalk.wrap64_in] <;> omega
  obtain ⟨e, HEQ⟩ : ∃ e : Ent, Hid (e = ⟨w.heap.size, x, t, T + 1⟩) := ⟨_, Lib.hid rfl⟩
  have hsz : (w.setCell ⟨g, 2, none⟩ (.int .i64 (T + 1))).heap.size = w.heap.size := by simp [World.setCell]
  have hnew : e.Lies ((w.setCell ⟨g, 2, none⟩ (.int .i64 (T + 1))).alloc (.cells #[.int .i64 x, .int .i64 t, .int .i64 (T + 1), .int .i64 0] 74)) 0 := by
    have := heap_new (w.setCell ⟨g, 2, none⟩ (.int .i64 (T + 1))) (.cells #[.int .i64 x, .int .i64 t, .int .i64 (T + 1), .int .i64 0] 74)
    rw [hsz] at this
    rw [HEQ.out]
    exact this
  have F2 : Fr [] (w.setCell ⟨g, 2, none⟩ (.int .i64 (T + 1))) ((w.setCell ⟨g, 2, none⟩ (.int .i64 (T + 1))).alloc (.cells #[.int .i64 x, .int .i64 t, .int .i64 (T + 1), .int .i64 0] 74)) := (Fr.refl _ _).alloc _
  obtain ⟨w3, hst, hm3, ht3⟩ := (h4'.fr F2 (by simp)).store (by unfold maxLen; omega) hx w.heap.size
  have F3 : Fr [m] _ w3 := Fr.turned ht3 (by simp)
  have r2 := r1.fr F2 (by simp)
  have r3 := r2.fr F3 (fun y hy hm => hmr (by obtain rfl : y = m := by simpa using hm
                                              exact hy))
  have hem : e.blk ≠ m := fun hh => by have := h4.lt; rw [← hh, HEQ.out] at this; exact absurd this (Nat.lt_irrefl _)
  have hl3 := F3.heap hnew (by simpa using hem)
  have hbn : e.blk ∉ L.map Ent.blk := fun hh => by
    have := h1.lt e.blk (List.mem_cons_of_mem _ (List.mem_append_right _ hh)); rw [HEQ.out] at this; exact absurd this (Nat.lt_irrefl _)
  have HX := Lib.hid (push_any r3 h2 (by have := h.size; have := h3.length_eq; omega) hl3 hbn)
  have H := Lib.hid h
  have H1 := Lib.hid h1
  have H3 := Lib.hid h3
  have HM3 := Lib.hid hm3
  have HF : Hid (Fr (g :: m :: rowB k L) w w3) := Lib.hid (((F1.mono (T := g :: m :: rowB k L) (by simp)).trans F2 (by simp)).trans F3 (by simp))
  have HM := Lib.hid (r3.m_row hm3)
  have hp : Ent.ptr e = .pointer (some ⟨w.heap.size, 0, none⟩) := by rw [HEQ.out]; rfl
  rw [hp] at HX
  have HN := Lib.hid hn
  have HBN := Lib.hid hbn
  have HMB := Lib.hid hem
  have c30 := r3.cell0
  have c21 := r2.cell1
  clear h h1 h2 h3 h4 h4' r1 r2 r3 F1 F2 F3 hmr hm3 ht3 hn hbn hl3 hem hnew hp
  unfold ptrV at hl
  go_enter Try.func13, Try.ntmps13
  go_wp2_with (go_at_call 29; refine HX.out.mono ?_; rintro v w4 ⟨rfl, k2, L2, hr4, hp4, hh4, hf4, hk4⟩)
  refine bodyPost_end (results_none rfl _ _ _) rfl ?_
  have hid : e.id = x := by rw [HEQ.out]
  have hbk : e.blk = w.heap.size := by rw [HEQ.out]
  have hft : S.filter (notId x) = S := by
    rw [List.filter_eq_self]; intro a ha; simpa [notId] using HN.out a ha
  have hset : setS S ⟨w.heap.size, x, t, T + 1⟩ = S ++ [e] := by
    unfold setS; rw [hft, HEQ.out]
  have p2 : L2.Perm (setS S ⟨w.heap.size, x, t, T + 1⟩) := by
    rw [hset]; exact hp4.trans (H3.out.append_right [e])
  have hsub : ∀ y ∈ g :: e.blk :: rowB k L, y ∈ g :: m :: rowB k L ∨ w.heap.size ≤ y := fun y hy => by
    rcases List.mem_cons.1 hy with hy | hy
    · exact Or.inl (hy ▸ List.mem_cons_self)
    · rcases List.mem_cons.1 hy with hy | hy
      · exact Or.inr (by omega)
      · exact Or.inl (List.mem_cons_of_mem _ (List.mem_cons_of_mem _ hy))
  have hsz3 : w.heap.size ≤ w3.heap.size := HF.out.size
  refine ⟨rfl, g :: m :: rowB k2 L2, w.heap.size, H.out.setted ⟨w.heap.size, x, t, T + 1⟩ rfl hx ⟨m, k2, L2, hr4, hh4, p2, ?_, rfl⟩, fun y hy => ?_, HF.out.trans hf4 hsub⟩
  · refine (HM3.out.fr hf4 (fun hm => ?_)).congr (fun y _ => ?_)
    · rcases List.mem_cons.1 hm with hm | hm
      · exact HM.out (hm ▸ List.mem_cons_self)
      · rcases List.mem_cons.1 hm with hm | hm
        · obtain ⟨es, c, ho⟩ := HM3.out.obj
          have := H1.out.lt
          exact HMB.out hm.symm
        · exact HM.out (List.mem_cons_of_mem _ hm)
    · unfold setS
      exact mapOf_set S ⟨w.heap.size, x, t, T + 1⟩ y
  · rcases List.mem_cons.1 hy with hy | hy
    · exact Or.inl (hy ▸ List.mem_cons_self)
    · rcases List.mem_cons.1 hy with hy | hy
      · exact Or.inl (hy ▸ List.mem_cons_of_mem _ List.mem_cons_self)
      · rcases List.mem_append.1 hy with hy | hy
        · rcases hk4 y hy with h1 | h1
          · exact Or.inl (List.mem_cons_of_mem _ (List.mem_cons_of_mem _ (List.mem_append_left _ h1)))
          · exact Or.inr (by omega)
        · obtain ⟨f, hf, rfl⟩ := List.mem_map.1 hy
          rcases List.mem_append.1 (hp4.mem_iff.1 hf) with h1 | h1
          · exact Or.inl (List.mem_cons_of_mem _ (List.mem_cons_of_mem _ (List.mem_append_right _ (List.mem_map_of_mem h1))))
          · obtain rfl : f = e := by simpa using h1
            exact Or.inr (by omega)

/-- Set(id, at) -/
theorem set_any {w : World} {g : Nat} {S : List Ent} {T : Nat} {B : List Nat} (h : IsAg w g S T B) (hT : T < 900) {x : Int} (hx : (Lit.int .i64 x).wf = true) (t : Int) : Calls Try.prog 13 #[.pointer (some ⟨g, 0, none⟩), .int .i64 x, .int .i64 t] w fun v w' =>
    v = .returned (.tuple #[]) ∧ ∃ B' b, IsAg w' g (setS S ⟨b, x, t, T + 1⟩) (T + 1) B' ∧ (∀ x ∈ B', x ∈ B ∨ w.heap.size ≤ x) ∧ Fr B w w' := by
  rcases mapOf_cases S x with hn | ⟨e, he, rfl⟩
  · exact set_new h hT hx hn t
  · exact set_old h (by omega) he t
end Go.Proofs.Ytjdkdakepomhdaa
