/- The image of a disk and of the reference's (layer 19). -/
import Derived.Test.YtmdmdjolfahjbaaPlays19w
namespace Go.Proofs.Ytmdmdjolfahjbaa
open Go.RowKit
attribute [local go_sem ↓] Go.wp_at_zero Go.wp_at_succ
set_option linter.unusedSimpArgs false

set_option maxHeartbeats 1000000 in
/-- All bytes. -/
theorem plays_image {w : World} {g bb : Nat} {D : Dk} {rg rb cap : Nat} {rest : List Value} {R : Rk} (h : Alike w g bb D rg rb cap rest R) (o : OpD) (v : Value) (ho : o.act = 5) :
    Calls Try.prog 21 #[.pointer (some ⟨g, 0, none⟩), .pointer (some ⟨rg, 0, none⟩), opVal o v] w (Played w g bb rg rb cap rest) := by
  have hs : ∀ x ∈ [g, bb, rg, rb], x < w.heap.size := by have := h.disk.sizes; have := h.ref.sizes; simp; omega
  have hA := At.start (o := o) (v := v) h
  have b1 := hA.box1 hs
  obtain ⟨on, act, n, data⟩ := o
  obtain rfl : act = 5 := ho
  obtain ⟨Sx, HSX⟩ : ∃ Sx : ByteArray, Hid ((⟨R.bytes.toArray⟩ : ByteArray) = Sx) := ⟨_, rfl⟩
  have HS : ∀ wx, At w wx g bb rg rb cap rest ⟨on, 5, n, data⟩ v D R → (wx.cell? ⟨w.heap.size, 1, none⟩ = some (.int .i64 5) ∧ wx.cell? ⟨rg, 0, none⟩ = some (.slice (some ⟨rb, 0, none⟩) (16 * R.n) cap) ∧ (convert 31 9 (.slice (some ⟨rb, 0, none⟩) (16 * R.n) cap)).run Try.prog wx = .ok (.string Sx) wx) :=
    fun wx hx => ⟨hx.box1 hs, hx.alike.ref.c0, by rw [← HSX.out]; exact conv_u8 hx.alike.ref.cells (16 * R.n) cap h.ref.len⟩
  obtain ⟨b, HP1, HP2⟩ : ∃ b, Hid ((!D.down) = b) ∧ Hid ((R.left != 0) = b) := ⟨_, rfl, h.power.symm⟩
  have hA0 : At w (w.alloc (.cells (opCells ⟨on, 5, n, data⟩ v) 33)).drew g bb rg rb cap rest ⟨on, 5, n, data⟩ v D R := hA.go (Fr.drew (Fr.refl _ _))
  unfold opVal
  go_enter Try.func21, Try.ntmps21
  go_wp2_with fail
  refine wp_region_held_drew (S := fun wx => wx.cell? ⟨w.heap.size, 1, none⟩ = some (.int .i64 5) ∧ wx.cell? ⟨rg, 0, none⟩ = some (.slice (some ⟨rb, 0, none⟩) (16 * R.n) cap) ∧ (convert 31 9 (.slice (some ⟨rb, 0, none⟩) (16 * R.n) cap)).run Try.prog wx = .ok (.string Sx) wx) (by kernel_rfl) (HS _ hA0) (fun hHeld => ?_)
-- 22 operations
  refine wpAnyH_take (i := 0) (oi := ⟨some 88, _, _, _, _, _⟩) (v := ?v0) rfl (by kernel_rfl) (by kernel_rfl) (by kernel_rfl) (fun _ _ _ h => h) (Or.inl ⟨by rfl, ?hy0⟩) (by assumption) ?rest0
  case hy0 => (intro w hSw; (try dsimp only at hSw); go_simp; try with_reducible rfl)
  try simp only [Act.put, List.setIfInBounds_toArray, List.set_cons_zero, List.set_cons_succ]
  refine wpAnyH_take (i := 2) (oi := ⟨some 90, _, _, _, _, _⟩) (v := ?v2) rfl (by kernel_rfl) (by kernel_rfl) (by kernel_rfl) (fun _ _ _ h => h) (Or.inl ⟨by rfl, ?hy2⟩) (by assumption) ?rest2
  case hy2 => (intro w hSw; (try dsimp only at hSw); go_simp; try with_reducible rfl)
  try simp only [Act.put, List.setIfInBounds_toArray, List.set_cons_zero, List.set_cons_succ]
  refine wpAnyH_ready (rs := [1]) (by kernel_rfl) (by simp) (AllReadyH.cons (o := ⟨some 89, _, _, _, _, _⟩) rfl (fun K hK => ?_) AllReadyH.nil)
  go_simp
  refine (power_is hA0.alike.disk HP1.out).mono ?_
  rintro e w1 ⟨rfl, rfl⟩
  refine hK.out _ _ ?_ (fun hHeld => ?_)
  · exact HS _ hA0
  clear hK K
  try simp only [Act.put, List.setIfInBounds_toArray, List.set_cons_zero, List.set_cons_succ]
  refine wpAnyH_ready (rs := [3]) (by kernel_rfl) (by simp) (AllReadyH.cons (o := ⟨some 91, _, _, _, _, _⟩) rfl (fun K hK => ?_) AllReadyH.nil)
  go_simp
  refine (rpower_is hA0.alike.ref HP2.out).mono ?_
  rintro e w1 ⟨rfl, rfl⟩
  refine hK.out _ _ ?_ (fun hHeld => ?_)
  · exact HS _ hA0
  clear hK K
  try simp only [Act.put, List.setIfInBounds_toArray, List.set_cons_zero, List.set_cons_succ]
  refine wpAnyH_take (i := 4) (oi := ⟨some 92, _, _, _, _, _⟩) (v := ?v4) rfl (by kernel_rfl) (by kernel_rfl) (by kernel_rfl) (fun _ _ _ h => h) (Or.inl ⟨by rfl, ?hy4⟩) (by assumption) ?rest4
  case hy4 => (intro w hSw; (try dsimp only at hSw); go_simp; try with_reducible rfl)
  try simp only [Act.put, List.setIfInBounds_toArray, List.set_cons_zero, List.set_cons_succ]
  refine wpAnyH_take (i := 5) (oi := ⟨some 93, _, _, _, _, _⟩) (v := ?v5) rfl (by kernel_rfl) (by kernel_rfl) (by kernel_rfl) (fun _ _ _ h => h) (Or.inl ⟨by rfl, ?hy5⟩) (by assumption) ?rest5
  case hy5 => (intro w hSw; (try dsimp only at hSw); go_simp; try with_reducible rfl)
  try simp only [Act.put, List.setIfInBounds_toArray, List.set_cons_zero, List.set_cons_succ]
  refine wpAnyH_take (i := 6) (oi := ⟨some 94, _, _, _, _, _⟩) (v := ?v6) rfl (by kernel_rfl) (by kernel_rfl) (by kernel_rfl) (fun _ _ _ h => h) (Or.inl ⟨by rfl, ?hy6⟩) (by assumption) ?rest6
  case hy6 => (intro w hSw; (try dsimp only at hSw); go_simp; try with_reducible rfl)
  try simp only [Act.put, List.setIfInBounds_toArray, List.set_cons_zero, List.set_cons_succ]
  refine wpAnyH_take (i := 7) (oi := ⟨some 95, _, _, _, _, _⟩) (v := ?v7) rfl (by kernel_rfl) (by kernel_rfl) (by kernel_rfl) (fun _ _ _ h => h) (Or.inl ⟨by rfl, ?hy7⟩) (by assumption) ?rest7
  case hy7 => (intro w hSw; (try dsimp only at hSw); go_simp; try with_reducible rfl)
  try simp only [Act.put, List.setIfInBounds_toArray, List.set_cons_zero, List.set_cons_succ]
  refine wpAnyH_take (i := 8) (oi := ⟨some 96, _, _, _, _, _⟩) (v := ?v8) rfl (by kernel_rfl) (by kernel_rfl) (by kernel_rfl) (fun _ _ _ h => h) (Or.inl ⟨by rfl, ?hy8⟩) (by assumption) ?rest8
  case hy8 => (intro w hSw; (try dsimp only at hSw); go_simp; try with_reducible rfl)
  try simp only [Act.put, List.setIfInBounds_toArray, List.set_cons_zero, List.set_cons_succ]
  refine wpAnyH_take (i := 9) (oi := ⟨some 97, _, _, _, _, _⟩) (v := ?v9) rfl (by kernel_rfl) (by kernel_rfl) (by kernel_rfl) (fun _ _ _ h => h) (Or.inl ⟨by rfl, ?hy9⟩) (by assumption) ?rest9
  case hy9 => (intro w hSw; (try dsimp only at hSw); go_simp; try with_reducible rfl)
  try simp only [Act.put, List.setIfInBounds_toArray, List.set_cons_zero, List.set_cons_succ]
  refine wpAnyH_take (i := 10) (oi := ⟨some 98, _, _, _, _, _⟩) (v := ?v10) rfl (by kernel_rfl) (by kernel_rfl) (by kernel_rfl) (fun _ _ _ h => h) (Or.inl ⟨by rfl, ?hy10⟩) (by assumption) ?rest10
  case hy10 => (intro w hSw; (try dsimp only at hSw); go_simp; try with_reducible rfl)
  try simp only [Act.put, List.setIfInBounds_toArray, List.set_cons_zero, List.set_cons_succ]
  refine wpAnyH_take (i := 13) (oi := ⟨some 101, _, _, _, _, _⟩) (v := ?v13) rfl (by kernel_rfl) (by kernel_rfl) (by kernel_rfl) (fun _ _ _ h => h) (Or.inl ⟨by rfl, ?hy13⟩) (by assumption) ?rest13
  case hy13 => (intro w hSw; (try dsimp only at hSw); go_simp; try with_reducible rfl)
  try simp only [Act.put, List.setIfInBounds_toArray, List.set_cons_zero, List.set_cons_succ]
  refine wpAnyH_take (i := 14) (oi := ⟨some 102, _, _, _, _, _⟩) (v := ?v14) rfl (by kernel_rfl) (by kernel_rfl) (by kernel_rfl) (fun _ _ _ h => h) (Or.inl ⟨by rfl, ?hy14⟩) (by assumption) ?rest14
  case hy14 => (intro w hSw; (try dsimp only at hSw); go_simp; try with_reducible rfl)
  try simp only [Act.put, List.setIfInBounds_toArray, List.set_cons_zero, List.set_cons_succ]
  refine wpAnyH_take (i := 15) (oi := ⟨some 103, _, _, _, _, _⟩) (v := ?v15) rfl (by kernel_rfl) (by kernel_rfl) (by kernel_rfl) (fun _ _ _ h => h) (Or.inl ⟨by rfl, ?hy15⟩) (by assumption) ?rest15
  case hy15 => (intro w hSw; (try dsimp only at hSw); go_simp; try with_reducible rfl)
  try simp only [Act.put, List.setIfInBounds_toArray, List.set_cons_zero, List.set_cons_succ]
  refine wpAnyH_take (i := 16) (oi := ⟨some 104, _, _, _, _, _⟩) (v := ?v16) rfl (by kernel_rfl) (by kernel_rfl) (by kernel_rfl) (fun _ _ _ h => h) (Or.inl ⟨by rfl, ?hy16⟩) (by assumption) ?rest16
  case hy16 => (intro w hSw; (try dsimp only at hSw); go_simp; try with_reducible rfl)
  try simp only [Act.put, List.setIfInBounds_toArray, List.set_cons_zero, List.set_cons_succ]
  refine wpAnyH_take (i := 17) (oi := ⟨some 105, _, _, _, _, _⟩) (v := ?v17) rfl (by kernel_rfl) (by kernel_rfl) (by kernel_rfl) (fun _ _ _ h => h) (Or.inl ⟨by rfl, ?hy17⟩) (by assumption) ?rest17
  case hy17 => (intro w hSw; (try dsimp only at hSw); go_simp; try with_reducible rfl)
  try simp only [Act.put, List.setIfInBounds_toArray, List.set_cons_zero, List.set_cons_succ]
  refine wpAnyH_ready (rs := [11]) (by kernel_rfl) (by simp) (AllReadyH.cons (o := ⟨some 99, _, _, _, _, _⟩) rfl (fun K hK => ?_) AllReadyH.nil)
  go_simp
  refine (image_any hA0.alike.disk).mono ?_
  rintro e w1 ⟨g1, c1, r1, rfl, p1, p2, p3, p4, hf1⟩
  have hA1 := hA0.go hf1
  have a1 := conv_u8 (cells_append p2) D.bytes.length c1 rfl
  rw [h.bytes, HSX.out] at a1
  rw [h.bytes]
  refine hK.out _ _ ?_ (fun hHeld => ?_)
  · exact HS _ hA1
  clear hK K
  try simp only [Act.put, List.setIfInBounds_toArray, List.set_cons_zero, List.set_cons_succ]
  refine wpAnyH_ready (rs := [12]) (by kernel_rfl) (by simp) (AllReadyH.cons (o := ⟨some 100, _, _, _, _, _⟩) rfl (fun K hK => ?_) AllReadyH.nil)
  go_simp
  refine hK.out _ _ ?_ (fun hHeld => ?_)
  · exact HS _ hA1
  clear hK K
  try simp only [Act.put, List.setIfInBounds_toArray, List.set_cons_zero, List.set_cons_succ]
  refine wpAnyH_take (i := 18) (oi := ⟨some 106, _, _, _, _, _⟩) (v := ?v18) rfl (by kernel_rfl) (by kernel_rfl) (by kernel_rfl) (fun _ _ _ h => h) (Or.inl ⟨by rfl, ?hy18⟩) (by assumption) ?rest18
  case hy18 => (intro w hSw; (try dsimp only at hSw); go_simp; try with_reducible rfl)
  try simp only [Act.put, List.setIfInBounds_toArray, List.set_cons_zero, List.set_cons_succ]
  refine wpAnyH_take (i := 19) (oi := ⟨some 107, _, _, _, _, _⟩) (v := ?v19) rfl (by kernel_rfl) (by kernel_rfl) (by kernel_rfl) (fun _ _ _ h => h) (Or.inl ⟨by rfl, ?hy19⟩) (by assumption) ?rest19
  case hy19 => (intro w hSw; (try dsimp only at hSw); go_simp; try with_reducible rfl)
  try simp only [Act.put, List.setIfInBounds_toArray, List.set_cons_zero, List.set_cons_succ]
  refine wpAnyH_take (i := 20) (oi := ⟨some 108, _, _, _, _, _⟩) (v := ?v20) rfl (by kernel_rfl) (by kernel_rfl) (by kernel_rfl) (fun _ _ _ h => h) (Or.inl ⟨by rfl, ?hy20⟩) (by assumption) ?rest20
  case hy20 => (intro w hSw; (try dsimp only at hSw); go_simp; try with_reducible rfl)
  try simp only [Act.put, List.setIfInBounds_toArray, List.set_cons_zero, List.set_cons_succ]
  refine wpAnyH_take (i := 21) (oi := ⟨some 6, _, _, _, _, _⟩) (v := ?v21) rfl (by kernel_rfl) (by kernel_rfl) (by kernel_rfl) (fun _ _ _ h => h) (Or.inl ⟨by rfl, ?hy21⟩) (by assumption) ?rest21
  case hy21 => (intro w hSw; (try dsimp only at hSw); go_simp; try with_reducible rfl)
  try simp only [Act.put, List.setIfInBounds_toArray, List.set_cons_zero, List.set_cons_succ]
  refine wpAnyH_done (by kernel_rfl) ?_ _
  go_wp2_with fail
  go_ret
  exact hA1.played

/-- One call of both. -/
theorem plays_any {w : World} {g bb : Nat} {D : Dk} {rg rb cap : Nat} {rest : List Value} {R : Rk} (h : Alike w g bb D rg rb cap rest R) (o : OpD) (v : Value) (hn : o.n ≤ 9223372036854775807) {B : Nat}
    (hv : ∀ w', Below B w w' → RdSl 1 RdU8 w' v o.data) (hB : ∀ x ∈ [g, bb, rg, rb], B ≤ x) (hBw : B ≤ w.heap.size) :
    Calls Try.prog 21 #[.pointer (some ⟨g, 0, none⟩), .pointer (some ⟨rg, 0, none⟩), opVal o v] w (Played w g bb rg rb cap rest) := by
  by_cases h1 : o.act = 1
  · exact plays_read h o v h1
  by_cases h3 : o.act = 3
  · exact plays_fuse h o v h3 hn
  by_cases h4 : o.act = 4
  · exact plays_restart h o v h4
  by_cases h5 : o.act = 5
  · exact plays_image h o v h5
  by_cases h2 : o.act = 2
  · by_cases hl : (o.data.take 2000).length = 16
    · by_cases hz : D.blockErr o.n = 0
      · have hnn : 0 ≤ o.n ∧ o.n < D.n ∧ D.down = false := by
          unfold Dk.blockErr at hz
          by_cases c : o.n < 0 ∨ (D.n : Int) ≤ o.n
          · rw [if_pos c] at hz; cases hz
          · rw [if_neg c] at hz
            cases hd : D.down
            · exact ⟨by omega, by omega, rfl⟩
            · simp [hd] at hz
        exact plays_write_ok h o v h2 hv hB hBw hl hnn.1 hnn.2.1 hnn.2.2
      · refine plays_write_same h o v h2 hv hB hBw (D.blockErr o.n) ?_ (by rw [hl]; exact (h.err o.n).symm) hz
        intro wx sp cp hx
        rw [hl]
        by_cases h50 : D.blockErr o.n = 50
        · rw [h50]; exact write_down hx o.n h50 sp cp
        · have e1 : D.blockErr o.n = 1 := by
            unfold Dk.blockErr at hz h50 ⊢
            split
            · rfl
            · rename_i c; rw [if_neg c] at hz h50; split at hz
              · rename_i c2; rw [if_pos c2] at h50; exact absurd rfl h50
              · exact absurd rfl hz
          rw [e1]; exact write_arg hx o.n sp 16 cp (Or.inl e1)
    · refine plays_write_same h o v h2 hv hB hBw 1 (fun wx sp cp hx => write_arg hx o.n sp _ cp (Or.inr hl)) ?_ (by decide)
      unfold Rk.err
      rw [if_pos (Or.inr (Or.inr hl))]
  exact plays_other h o v ⟨h1, h2, h3, h4, h5⟩
end Go.Proofs.Ytmdmdjolfahjbaa
