/- Package agenda: Drop and Set. -/
import Derived.Test.YtjdkdakepomhdaaAgP
import Derived.Test.YtjdkdakepomhdaaHeldG
namespace Go.Proofs.Ytjdkdakepomhdaa
open Go.RowKit

theorem perm_at {L : List Ent} {i : Nat} {e : Ent} (h : L[i]? = some e) (e' : Ent) : L.Perm (e :: L.eraseIdx i) ∧ (L.set i e').Perm (e' :: L.eraseIdx i) := by
  obtain ⟨hi, rfl⟩ := List.getElem?_eq_some_iff.1 h
  rw [List.eraseIdx_eq_take_drop_succ]
  refine ⟨?_, ?_⟩
  · conv => lhs; rw [← List.take_append_drop i L, List.drop_eq_getElem_cons hi]
    exact List.perm_middle
  · rw [List.set_eq_take_append_cons_drop, if_pos hi]
    exact List.perm_middle
def notId (x : Int) (e : Ent) : Bool := e.id != x
theorem perm_drop {S R : List Ent} {e : Ent} (h : S.Perm (e :: R)) (hn : (S.map Ent.id).Nodup) : R.Perm (S.filter (notId e.id)) := by
  have h1 := h.filter (notId e.id)
  have h2 : ((e :: R).map Ent.id).Nodup := (h.map _).nodup_iff.1 hn
  rw [List.map_cons, List.nodup_cons] at h2
  have h3 : (e :: R).filter (notId e.id) = R := by
    rw [List.filter_cons_of_neg (by simp [notId]), List.filter_eq_self]
    intro a ha
    have : a.id ≠ e.id := fun hh => h2.1 (hh ▸ List.mem_map_of_mem ha)
    simpa [notId] using this
  rw [h3] at h1
  exact h1.symm
theorem mapOf_drop (S : List Ent) (x y : Int) : mapOf (S.filter (notId x)) y = if y = x then none else mapOf S y := by
  by_cases h : y = x
  · rw [if_pos h, mapOf_none]
    intro e he
    have := (List.mem_filter.1 he).2
    subst h
    simpa [notId] using this
  · rw [if_neg h]
    unfold mapOf
    rw [List.find?_filter]
    congr 2
    funext e
    by_cases h1 : e.id = y
    · subst h1; simp [notId, h]
    · simp [h1]
theorem IsAg.dropped {w w' : World} {g : Nat} {S : List Ent} {T : Nat} {B B' : List Nat} (h : IsAg w g S T B) (x : Int) (hx : ∃ m k L, AgRow w' g m T k L ∧ HeapF L.length (vw L) ∧ L.Perm (S.filter (notId x)) ∧ MapIs w' m T (mapOf (S.filter (notId x))) ∧ B' = g :: m :: rowB k L) : IsAg w' g (S.filter (notId x)) T B' :=
  ⟨hx, ((List.filter_sublist (l := S)).map _).nodup h.ids, fun e he => h.wf e (List.mem_filter.1 he).1, h.turns.filter _, fun e he => h.top e (List.mem_filter.1 he).1, Nat.le_trans (List.length_filter_le _ _) h.size⟩

set_option maxRecDepth 100000 in
set_option maxHeartbeats 2000000 in
/-- Drop(id) -/
theorem drop_any {w : World} {g : Nat} {S : List Ent} {T : Nat} {B : List Nat} (h : IsAg w g S T B) {x : Int} (hx : (Lit.int .i64 x).wf = true) : Calls Try.prog 25 #[.pointer (some ⟨g, 0, none⟩), .int .i64 x] w fun e w' =>
    e = .returned (.bool (mapOf S x).isSome) ∧ ∃ B', IsAg w' g (S.filter (notId x)) T B' ∧ (∀ x ∈ B', x ∈ B ∨ w.heap.size ≤ x) ∧ Fr B w w' := by
  obtain ⟨m, k, L, h1, h2, h3, h4, rfl⟩ := h.ex
  have hl := h4.look hx
  have c1 := h1.cell1
  rcases mapOf_cases S x with hn | ⟨e, he, rfl⟩
  · have e1 := mapOf_none.2 hn
    have e2 : S.filter (notId x) = S := by
      rw [List.filter_eq_self]; intro a ha; simpa [notId] using hn a ha
    rw [e1] at hl ⊢
    rw [e2]
    have H := Lib.hid h
    clear h h1 h2 h3 h4
    unfold ptrV at hl
    go_enter Try.func25, Try.ntmps25
    go_wp2_with fail
    go_ret
    exact ⟨rfl, g :: m :: rowB k L, H.out, fun x hx => Or.inl (by simpa using hx), Fr.refl _ _⟩
  · have e1 := mapOf_some h.ids he
    rw [e1] at hl ⊢
    obtain ⟨i, hi, hie⟩ := List.getElem_of_mem (h3.mem_iff.2 he)
    have hL : L[i]? = some e := by rw [List.getElem?_eq_getElem hi, hie]
    have c3 := (h1.ents i e hL).c3
    have HR := Lib.hid (remove_any (h1.same (w' := w.drew) rfl) h2 i hL)
    have HE := Lib.hid he
    have H := Lib.hid h
    have H3 := Lib.hid h3
    have H4 := Lib.hid (h4.same (w' := w.drew) rfl)
    have hmr := Lib.hid (h1.m_row h4)
    clear h h1 h2 h3 h4
    unfold ptrV at hl
    go_enter Try.func25, Try.ntmps25
    go_wp2_with fail
    refine wp_region_G (n := 8) (S := fun w' => w'.cell? ⟨e.blk, 3, none⟩ = some (.int .i64 i)) (by kernel_rfl) c3 (fun hHeld => ?_)
-- 9 operations
    refine wpG_take (i := 0) (oi := ⟨some 17, _, _, _, _, _⟩) (v := ?v0) rfl (by kernel_rfl) (by kernel_rfl) (fun _ _ _ h => h) (Or.inl ⟨by rfl, ?hy0⟩) (by assumption) ?rest0
    case hy0 => (intro w hSw; (try dsimp only at hSw); go_simp; try with_reducible rfl)
    try simp only [Act.put, List.setIfInBounds_toArray, List.set_cons_zero, List.set_cons_succ]
    refine wpG_take (i := 1) (oi := ⟨some 18, _, _, _, _, _⟩) (v := ?v1) rfl (by kernel_rfl) (by kernel_rfl) (fun _ _ _ h => h) (Or.inl ⟨by rfl, ?hy1⟩) (by assumption) ?rest1
    case hy1 => (intro w hSw; (try dsimp only at hSw); go_simp; try with_reducible rfl)
    try simp only [Act.put, List.setIfInBounds_toArray, List.set_cons_zero, List.set_cons_succ]
    refine wpG_take (i := 2) (oi := ⟨some 19, _, _, _, _, _⟩) (v := ?v2) rfl (by kernel_rfl) (by kernel_rfl) (fun _ _ _ h => h) (Or.inl ⟨by rfl, ?hy2⟩) (by assumption) ?rest2
    case hy2 => (intro w hSw; (try dsimp only at hSw); go_simp; try with_reducible rfl)
    try simp only [Act.put, List.setIfInBounds_toArray, List.set_cons_zero, List.set_cons_succ]
    refine wpG_take (i := 3) (oi := ⟨some 20, _, _, _, _, _⟩) (v := ?v3) rfl (by kernel_rfl) (by kernel_rfl) (fun _ _ _ h => h) (Or.inl ⟨by rfl, ?hy3⟩) (by assumption) ?rest3
    case hy3 => (intro w hSw; (try dsimp only at hSw); go_simp; try with_reducible rfl)
    try simp only [Act.put, List.setIfInBounds_toArray, List.set_cons_zero, List.set_cons_succ]
    refine wpG_take (i := 4) (oi := ⟨some 21, _, _, _, _, _⟩) (v := ?v4) rfl (by kernel_rfl) (by kernel_rfl) (fun _ _ _ h => h) (Or.inl ⟨by rfl, ?hy4⟩) (by assumption) ?rest4
    case hy4 => (intro w hSw; (try dsimp only at hSw); go_simp; try with_reducible rfl)
    try simp only [Act.put, List.setIfInBounds_toArray, List.set_cons_zero, List.set_cons_succ]
    refine wpG_take (i := 5) (oi := ⟨some 22, _, _, _, _, _⟩) (v := ?v5) rfl (by kernel_rfl) (by kernel_rfl) (fun _ _ _ h => h) (Or.inl ⟨by rfl, ?hy5⟩) (by assumption) ?rest5
    case hy5 => (intro w hSw; (try dsimp only at hSw); go_simp; try with_reducible rfl)
    try simp only [Act.put, List.setIfInBounds_toArray, List.set_cons_zero, List.set_cons_succ]
    refine wpG_take (i := 6) (oi := ⟨some 23, _, _, _, _, _⟩) (v := ?v6) rfl (by kernel_rfl) (by kernel_rfl) (fun _ _ _ h => h) (Or.inl ⟨by rfl, ?hy6⟩) (by assumption) ?rest6
    case hy6 => (intro w hSw; (try dsimp only at hSw); go_simp; try with_reducible rfl)
    try simp only [Act.put, List.setIfInBounds_toArray, List.set_cons_zero, List.set_cons_succ]
    refine wpG_take (i := 7) (oi := ⟨some 24, _, _, _, _, _⟩) (v := ?v7) rfl (by kernel_rfl) (by kernel_rfl) (fun _ _ _ h => h) (Or.inl ⟨by rfl, ?hy7⟩) (by assumption) ?rest7
    case hy7 => (intro w hSw; (try dsimp only at hSw); go_simp; try with_reducible rfl)
    try simp only [Act.put, List.setIfInBounds_toArray, List.set_cons_zero, List.set_cons_succ]
    refine wpG_ready (rs := [8]) (by kernel_rfl) (by simp) (AllReadyG.cons (o := ⟨some 25, _, _, _, _, _⟩) rfl (fun K hK => ?_) AllReadyG.nil)
    go_simp
    refine HR.out.mono ?_
    rintro v w2 ⟨⟨v, rfl⟩, k2, L2, hr2, hp2, hh2, hf2, hk2⟩
    have hm2 := H4.out.fr hf2 hmr.out
    obtain ⟨w3, hdel, hm3, ht3⟩ := hm2.drop (H.out.wf e HE.out) 0
    have hc2 := hr2.cell1
    have HM3 := Lib.hid hm3
    have HT3 := Lib.hid (Fr.turned (S := [m]) ht3 (by simp))
    have HR2 := Lib.hid hr2
    have HP2 := Lib.hid hp2
    have HH2 := Lib.hid hh2
    have HF2 := Lib.hid hf2
    have HMR2 := Lib.hid (hr2.m_row hm2)
    clear hm2 hm3 ht3 hr2 hp2 hh2 hf2
    refine hK.out _ _ (fun h => absurd h (by decide)) (fun _ => ?_)
    clear hK K
    try simp only [Act.put, List.setIfInBounds_toArray, List.set_cons_zero, List.set_cons_succ]
    refine wpG_done (by kernel_rfl) ?_ _
    go_wp2_with fail
    go_ret
    have hp5 : (L2 ++ [e]).Perm S := HP2.out.trans H3.out
    have hp6 : L2.Perm (S.filter (notId e.id)) := perm_drop (hp5.symm.trans (List.perm_append_singleton e L2)) H.out.ids
    have hr3 : AgRow w3 g m T k2 L2 := HR2.out.fr HT3.out (fun y hy hm => HMR2.out (by
      obtain rfl : y = m := by simpa using hm
      exact hy))
    refine ⟨rfl, g :: m :: rowB k2 L2, H.out.dropped e.id ⟨m, k2, L2, hr3, HH2.out, hp6, HM3.out.congr (fun y _ => mapOf_drop S e.id y), rfl⟩, fun y hy => Or.inl ?_, ?_⟩
    · rcases List.mem_cons.1 hy with hy | hy
      · exact hy ▸ List.mem_cons_self
      · rcases List.mem_cons.1 hy with hy | hy
        · exact hy ▸ List.mem_cons_of_mem _ List.mem_cons_self
        · refine List.mem_cons_of_mem _ (List.mem_cons_of_mem _ ?_)
          rcases List.mem_append.1 hy with hy | hy
          · exact List.mem_append_left _ (hk2 ▸ hy)
          · obtain ⟨f, hf, rfl⟩ := List.mem_map.1 hy
            exact List.mem_append_right _ (List.mem_map_of_mem (HP2.out.mem_iff.1 (List.mem_append_left _ hf)))
    · have f1 : Fr (g :: m :: rowB k L) w w2 := (((Fr.refl [] w).drew).mono (T := g :: m :: rowB k L) (by simp)).trans HF2.out (fun y hy => Or.inl (by
        rcases List.mem_cons.1 hy with hy | hy
        · exact hy ▸ List.mem_cons_self
        · exact List.mem_cons_of_mem _ (List.mem_cons_of_mem _ hy)))
      exact f1.trans HT3.out (fun y hy => Or.inl (by
        obtain rfl : y = m := by simpa using hy
        exact List.mem_cons_of_mem _ List.mem_cons_self))
end Go.Proofs.Ytjdkdakepomhdaa
