/- A Write, and an Image, of a disk and of the reference's (layer 19). -/
import Derived.Test.YtmdmdjolfahjbaaPlays19
import Derived.Deep.RegionHeld3
import Derived.Deep.DrawnRows
namespace Go.Proofs.Ytmdmdjolfahjbaa
open Go.RowKit
attribute [local go_sem ↓] Go.wp_at_zero Go.wp_at_succ
set_option linter.unusedSimpArgs false

theorem few_is (w : World) (v : Value) (l L : List UInt8) (n : Nat) (h : RdSl 1 RdU8 w v l) (hL : l.take 2000 = L) (hn : L.length = n) :
    Calls Try.prog 14 #[v] w fun e w' =>
    ∃ g cap, e = .returned (.slice (some ⟨g, 0, none⟩) n cap) ∧ w.heap.size ≤ g ∧ Cells w' ⟨g, 0, none⟩ (L.map u8v) ∧ Fr [] w w' := by
  subst hL hn
  exact (few_any w v l h).mono fun e w' ⟨g, cap, rest, he, h1, h2, _, _, h5⟩ => ⟨g, cap, he, h1, cells_append h2, h5⟩

/-- A stronger condition may be taken on the way. -/
theorem wpAnyH_mono {P : Program} {md : Region.Mode} {ops : Array Oper} {Q : Exit → Act → World → Prop} {S S' : World → Prop} (hS : ∀ w, S' w → S w) :
    ∀ (fuel : Nat) (listed : Array Bool) (a : Act) (w : World), wpAnyH P md ops Q S' fuel listed a w → wpAnyH P md ops Q S fuel listed a w
  | 0, _, _, _, h => h
  | fuel + 1, _, _, _, h => ⟨h.1, fun i hi => wpOp_mono (fun a' w' h' => ⟨hS _ h'.1, wpAnyH_mono hS fuel _ a' w' h'.2⟩) (h.2 i hi)⟩

/-- Where the walk of one call stands. -/
structure At (w0 w : World) (g bb rg rb cap : Nat) (rest : List Value) (o : OpD) (v : Value) (D : Dk) (R : Rk) : Prop where
  alike : Alike w g bb D rg rb cap rest R
  fr : Fr [g, bb, rg, rb] (w0.alloc (.cells (opCells o v) 33)) w

section
variable {w0 w w' : World} {g bb rg rb cap : Nat} {rest : List Value} {o : OpD} {v : Value} {D : Dk} {R : Rk}
theorem At.box2 (h : At w0 w g bb rg rb cap rest o v D R) (hs : ∀ x ∈ [g, bb, rg, rb], x < w0.heap.size) : w.cell? ⟨w0.heap.size, 2, none⟩ = some (.int .i64 o.n) := (box_cells h.fr hs).2.1
theorem At.box3 (h : At w0 w g bb rg rb cap rest o v D R) (hs : ∀ x ∈ [g, bb, rg, rb], x < w0.heap.size) : w.cell? ⟨w0.heap.size, 3, none⟩ = some v := (box_cells h.fr hs).2.2
theorem At.box1 (h : At w0 w g bb rg rb cap rest o v D R) (hs : ∀ x ∈ [g, bb, rg, rb], x < w0.heap.size) : w.cell? ⟨w0.heap.size, 1, none⟩ = some (.int .i64 o.act) := (box_cells h.fr hs).1
theorem At.go (h : At w0 w g bb rg rb cap rest o v D R) (hf : Fr [] w w') : At w0 w' g bb rg rb cap rest o v D R :=
  ⟨h.alike.fr hf (by simp) (by simp) (by simp) (by simp), h.fr.trans hf (by simp)⟩
theorem At.start (h : Alike w g bb D rg rb cap rest R) : At w (w.alloc (.cells (opCells o v) 33)) g bb rg rb cap rest o v D R :=
  ⟨h.fr ((Fr.refl [] w).alloc _) (by simp) (by simp) (by simp) (by simp), Fr.refl _ _⟩
theorem At.played (h : At w0 w g bb rg rb cap rest o v D R) : Played w0 g bb rg rb cap rest (.returned (.bool true)) w :=
  ⟨rfl, _, _, h.alike, ((Fr.refl _ _).alloc _).trans h.fr (fun _ hx => Or.inl hx)⟩
theorem At.cnt (h : At w0 w g bb rg rb cap rest o v D R) {cnt : Int} (hc : D.writes = cnt) : w.cell? ⟨rg, 1, none⟩ = some (.int .i64 cnt) := by
  rw [← hc, h.alike.count]; exact h.alike.ref.c1
/-- Below B nothing has turned. -/
theorem fr_below {B : Nat} (hf : Fr [g, bb, rg, rb] (w0.alloc (.cells (opCells o v) 33)) w) (hB : ∀ x ∈ [g, bb, rg, rb], B ≤ x) (hBw : B ≤ w0.heap.size) : Below B w0 w :=
  (((Fr.refl [g, bb, rg, rb] w0).alloc _).trans hf (fun _ hx => Or.inl hx)).below hBw hB
theorem writes_is (h : IsDisk w g bb D) {c : Int} (hc : D.writes = c) : Calls Try.prog 11 #[.pointer (some ⟨g, 0, none⟩)] w fun e w' => e = .returned (.int .i64 c) ∧ w = w' := by
  subst hc; exact writes_any h
end

theorem rwrite_is {w : World} {g bb cap : Nat} {rest : List Value} {R : Rk} (h : IsRef w g bb cap rest R) (i : Int) (sp : Option Addr) (n c : Nat) {x : Int} (hx : R.err i n = x) (h0 : x ≠ 0) :
    Calls Try.prog 32 #[.pointer (some ⟨g, 0, none⟩), .int .i64 i, .slice sp n c] w fun e w' => e = .returned (.int .i64 x) ∧ w = w' := by
  subst hx; exact rwrite_bad h i sp n c h0

set_option maxHeartbeats 1000000 in
/-- A write that is refused. -/
theorem plays_write_same {w : World} {g bb : Nat} {D : Dk} {rg rb cap : Nat} {rest : List Value} {R : Rk} (h : Alike w g bb D rg rb cap rest R) (o : OpD) (v : Value) (ho : o.act = 2) {B : Nat}
    (hv : ∀ w', Below B w w' → RdSl 1 RdU8 w' v o.data) (hB : ∀ x ∈ [g, bb, rg, rb], B ≤ x) (hBw : B ≤ w.heap.size) (c : Int)
    (hwr : ∀ wx sp cp, IsDisk wx g bb D → Calls Try.prog 9 #[.pointer (some ⟨g, 0, none⟩), .int .i64 o.n, .slice sp (o.data.take 2000).length cp] wx fun e w' => e = .returned (.int .i64 c) ∧ wx = w')
    (hre : R.err o.n (o.data.take 2000).length = c) (hc : c ≠ 0) :
    Calls Try.prog 21 #[.pointer (some ⟨g, 0, none⟩), .pointer (some ⟨rg, 0, none⟩), opVal o v] w (Played w g bb rg rb cap rest) := by
  have hs : ∀ x ∈ [g, bb, rg, rb], x < w.heap.size := by have := h.disk.sizes; have := h.ref.sizes; simp; omega
  have hA := At.start (o := o) (v := v) h
  have b2 := hA.box2 hs
  have b3 := hA.box3 hs
  obtain ⟨cnt, HC⟩ : ∃ cnt, Hid (D.writes = cnt) := ⟨_, rfl⟩
  have b4 := hA.cnt HC.out
  obtain ⟨L, HL⟩ : ∃ L, Hid (o.data.take 2000 = L) := ⟨_, rfl⟩
  obtain ⟨len, HLEN⟩ : ∃ len, Hid (L.length = len) := ⟨_, rfl⟩
  have HF := fun wx (hx : At w wx g bb rg rb cap rest o v D R) => few_is wx v o.data L len (hv wx (fr_below hx.fr hB hBw)) HL.out HLEN.out
  rw [HL.out, HLEN.out] at hre hwr
  have HRE := Lib.hid hre
  have HWR := Lib.hid hwr
  have HCC := Lib.hid hc
  clear hre hwr hc hv
  obtain ⟨b, HP1, HP2⟩ : ∃ b, Hid ((!D.down) = b) ∧ Hid ((R.left != 0) = b) := ⟨_, rfl, h.power.symm⟩
  obtain ⟨on, act, n, data⟩ := o
  obtain rfl : act = 2 := ho
  unfold opVal
  go_enter Try.func21, Try.ntmps21
  go_wp2_with fail
  go_region_held3 (fun w' => w'.cell? ⟨w.heap.size, 2, none⟩ = some (.int .i64 n) ∧ w'.cell? ⟨w.heap.size, 3, none⟩ = some v ∧ w'.cell? ⟨rg, 1, none⟩ = some (.int .i64 cnt)) (first | exact ⟨b2, b3, b4⟩ | (refine ⟨?_, ?_, ?_⟩ <;> assumption))
    (first
      | (go_at_call 14; refine (HF _ (by first | assumption | exact At.go (by assumption) (Fr.drew (Fr.refl _ _)))).mono ?_; rintro e w' ⟨g1, c1, rfl, p1, p2, hf⟩; have hA1 : At w w' g bb rg rb cap rest ⟨on, 2, n, data⟩ v D R := At.go (by first | assumption | exact At.go (by assumption) (Fr.drew (Fr.refl _ _))) hf; have bx2 := hA1.box2 hs; have bx3 := hA1.box3 hs; have bx4 := hA1.cnt HC.out)
      | (go_at_call 9; refine (HWR.out _ _ _ (At.alike (by assumption)).disk).mono ?_; rintro e w' ⟨rfl, rfl⟩)
      | (go_at_call 32; refine (rwrite_is (At.alike (by assumption)).ref n _ len _ HRE.out HCC.out).mono ?_; rintro e w' ⟨rfl, rfl⟩)
      | (go_at_call 11; refine (writes_is (At.alike (by assumption)).disk HC.out).mono ?_; rintro e w' ⟨rfl, rfl⟩)
      | (go_at_call 10; refine (power_is (At.alike (by assumption)).disk HP1.out).mono ?_; rintro e w' ⟨rfl, rfl⟩)
      | (go_at_call 33; refine (rpower_is (At.alike (by assumption)).ref HP2.out).mono ?_; rintro e w' ⟨rfl, rfl⟩))
  all_goals
    go_wp2_with fail
    go_ret
    exact At.played (by assumption)

theorem write_n {D : Dk} {R : Rk} (h : D.n = R.n) {k : Nat} {L : List UInt8} : (D.write k L).n = (R.write k L).n := by
  unfold Dk.write Rk.write; dsimp only; split
  · unfold Dk.fuse; split <;> exact h
  · exact h
theorem write_bytes {D : Dk} {R : Rk} (h : D.bytes = R.bytes) {k : Nat} {L : List UInt8} : (D.write k L).bytes = (R.write k L).bytes := by
  unfold Dk.write Rk.write; dsimp only; split
  · unfold Dk.fuse; split <;> (dsimp only; rw [h])
  · dsimp only; rw [h]
theorem write_count {D : Dk} {R : Rk} (h : D.writes = R.count) {k : Nat} {L : List UInt8} : (D.write k L).writes = (R.write k L).count := by
  unfold Dk.write Rk.write; dsimp only; split
  · unfold Dk.fuse; split <;> (dsimp only; rw [h])
  · dsimp only; rw [h]
theorem LeftRel.write {D : Dk} {R : Rk} (h : LeftRel D R) (hd : D.down = false) (hsm : D.left ≤ 9223372036854775807) {k : Nat} {L : List UInt8} : LeftRel (D.write k L) (R.write k L) := by
  rcases h with ⟨a, b⟩ | ⟨a, b, c, d⟩ | ⟨a, b, c⟩
  · rw [hd] at a; cases a
  · unfold Dk.write Rk.write
    dsimp only
    rw [if_pos b, if_pos (by omega)]
    unfold Dk.fuse
    rw [if_neg (by simp [hd])]
    by_cases hz : R.left - 1 = 0
    · left
      have e : wrap64 (D.left - 1) = 0 := by unfold wrap64; omega
      simp [e, hz]
    · right; left
      have hs9 : D.left ≤ 9223372036854775807 := hsm
      have e : wrap64 (D.left - 1) = D.left - 1 := by unfold wrap64; omega
      rw [e]
      refine ⟨by simp; omega, by simp; omega, by simp; omega, by simp; omega⟩
  · unfold Dk.write Rk.write
    dsimp only
    rw [if_neg (by simp [b]), if_neg (by omega)]
    exact Or.inr (Or.inr ⟨a, b, c⟩)
theorem write_small {D : Dk} (h : D.left ≤ 9223372036854775807) {k : Nat} {L : List UInt8} : (D.write k L).left ≤ 9223372036854775807 := by
  unfold Dk.write
  dsimp only
  split
  · unfold Dk.fuse
    split
    · exact h
    · have : wrap64 (D.left - 1) ≤ 9223372036854775807 := by unfold wrap64; omega
      exact this
  · exact h

set_option maxHeartbeats 1000000 in
/-- A write that is done. -/
theorem plays_write_ok {w : World} {g bb : Nat} {D : Dk} {rg rb cap : Nat} {rest : List Value} {R : Rk} (h : Alike w g bb D rg rb cap rest R) (o : OpD) (v : Value) (ho : o.act = 2) {B : Nat}
    (hv : ∀ w', Below B w w' → RdSl 1 RdU8 w' v o.data) (hB : ∀ x ∈ [g, bb, rg, rb], B ≤ x) (hBw : B ≤ w.heap.size)
    (hlen : (o.data.take 2000).length = 16) (hn0 : 0 ≤ o.n) (hn1 : o.n < D.n) (hd : D.down = false) :
    Calls Try.prog 21 #[.pointer (some ⟨g, 0, none⟩), .pointer (some ⟨rg, 0, none⟩), opVal o v] w (Played w g bb rg rb cap rest) := by
  have hs : ∀ x ∈ [g, bb, rg, rb], x < w.heap.size := by have := h.disk.sizes; have := h.ref.sizes; simp; omega
  have hA := At.start (o := o) (v := v) h
  have b2 := hA.box2 hs
  have b3 := hA.box3 hs
  have HN := Lib.hid h.nes
  obtain ⟨L, HL⟩ : ∃ L, Hid (o.data.take 2000 = L) := ⟨_, rfl⟩
  rw [HL.out] at hlen
  have HF := fun wx (hx : Fr [g, bb, rg, rb] (w.alloc (.cells (opCells o v) 33)) wx) => few_is wx v o.data L 16 (hv wx (fr_below hx hB hBw)) HL.out hlen
  have HLEN := Lib.hid hlen
  have HDD := Lib.hid hd
  have HV := Lib.hid HF
  clear hlen hv hd HF
  obtain ⟨on, act, n, data⟩ := o
  obtain rfl : act = 2 := ho
  obtain ⟨k, rfl⟩ := Int.eq_ofNat_of_zero_le hn0
  have hk : k < D.n := by have : ((k : Int)) < D.n := hn1; omega
  have hrl : R.left ≠ 0 := by have := h.power; rw [HDD.out] at this; simpa using this
  have hrr : -9223372036854775808 ≤ R.left ∧ R.left ≤ 9223372036854775807 := by have := h.small; rcases h.left with ⟨_, x⟩ | ⟨_, _, x, y⟩ | ⟨_, _, x⟩ <;> omega
  have HRL := Lib.hid hrl
  have hkr : k < R.n := by have := h.n; omega
  clear hrl
  unfold opVal
  go_enter Try.func21, Try.ntmps21
  go_wp2_with fail
  refine wp_region_held_drew (S := fun w' => w'.cell? ⟨w.heap.size, 2, none⟩ = some (.int .i64 k) ∧ w'.cell? ⟨w.heap.size, 3, none⟩ = some v) (by kernel_rfl) ⟨b2, b3⟩ (fun hHeld => ?_)
-- 32 operations
  refine wpAnyH_take (i := 0) (oi := ⟨some 41, _, _, _, _, _⟩) (v := ?v0) rfl (by kernel_rfl) (by kernel_rfl) (by kernel_rfl) (fun _ _ _ h => h) (Or.inl ⟨by rfl, ?hy0⟩) (by assumption) ?rest0
  case hy0 => (intro w hSw; (try dsimp only at hSw); go_simp; try with_reducible rfl)
  try simp only [Act.put, List.setIfInBounds_toArray, List.set_cons_zero, List.set_cons_succ]
  refine wpAnyH_take (i := 1) (oi := ⟨some 42, _, _, _, _, _⟩) (v := ?v1) rfl (by kernel_rfl) (by kernel_rfl) (by kernel_rfl) (fun _ _ _ h => h) (Or.inl ⟨by rfl, ?hy1⟩) (by assumption) ?rest1
  case hy1 => (intro w hSw; (try dsimp only at hSw); go_simp; try with_reducible rfl)
  try simp only [Act.put, List.setIfInBounds_toArray, List.set_cons_zero, List.set_cons_succ]
  refine wpAnyH_take (i := 2) (oi := ⟨some 43, _, _, _, _, _⟩) (v := ?v2) rfl (by kernel_rfl) (by kernel_rfl) (by kernel_rfl) (fun _ _ _ h => h) (Or.inl ⟨by rfl, ?hy2⟩) (by assumption) ?rest2
  case hy2 => (intro w hSw; (try dsimp only at hSw); go_simp; try with_reducible rfl)
  try simp only [Act.put, List.setIfInBounds_toArray, List.set_cons_zero, List.set_cons_succ]
  refine wpAnyH_take (i := 3) (oi := ⟨some 44, _, _, _, _, _⟩) (v := ?v3) rfl (by kernel_rfl) (by kernel_rfl) (by kernel_rfl) (fun _ _ _ h => h) (Or.inl ⟨by rfl, ?hy3⟩) (by assumption) ?rest3
  case hy3 => (intro w hSw; (try dsimp only at hSw); go_simp; try with_reducible rfl)
  try simp only [Act.put, List.setIfInBounds_toArray, List.set_cons_zero, List.set_cons_succ]
  refine wpAnyH_take (i := 4) (oi := ⟨some 45, _, _, _, _, _⟩) (v := ?v4) rfl (by kernel_rfl) (by kernel_rfl) (by kernel_rfl) (fun _ _ _ h => h) (Or.inl ⟨by rfl, ?hy4⟩) (by assumption) ?rest4
  case hy4 => (intro w hSw; (try dsimp only at hSw); go_simp; try with_reducible rfl)
  try simp only [Act.put, List.setIfInBounds_toArray, List.set_cons_zero, List.set_cons_succ]
  refine wpAnyH_take (i := 7) (oi := ⟨some 48, _, _, _, _, _⟩) (v := ?v7) rfl (by kernel_rfl) (by kernel_rfl) (by kernel_rfl) (fun _ _ _ h => h) (Or.inl ⟨by rfl, ?hy7⟩) (by assumption) ?rest7
  case hy7 => (intro w hSw; (try dsimp only at hSw); go_simp; try with_reducible rfl)
  try simp only [Act.put, List.setIfInBounds_toArray, List.set_cons_zero, List.set_cons_succ]
  refine wpAnyH_take (i := 8) (oi := ⟨some 49, _, _, _, _, _⟩) (v := ?v8) rfl (by kernel_rfl) (by kernel_rfl) (by kernel_rfl) (fun _ _ _ h => h) (Or.inl ⟨by rfl, ?hy8⟩) (by assumption) ?rest8
  case hy8 => (intro w hSw; (try dsimp only at hSw); go_simp; try with_reducible rfl)
  try simp only [Act.put, List.setIfInBounds_toArray, List.set_cons_zero, List.set_cons_succ]
  refine wpAnyH_take (i := 9) (oi := ⟨some 50, _, _, _, _, _⟩) (v := ?v9) rfl (by kernel_rfl) (by kernel_rfl) (by kernel_rfl) (fun _ _ _ h => h) (Or.inl ⟨by rfl, ?hy9⟩) (by assumption) ?rest9
  case hy9 => (intro w hSw; (try dsimp only at hSw); go_simp; try with_reducible rfl)
  try simp only [Act.put, List.setIfInBounds_toArray, List.set_cons_zero, List.set_cons_succ]
  refine wpAnyH_take (i := 10) (oi := ⟨some 51, _, _, _, _, _⟩) (v := ?v10) rfl (by kernel_rfl) (by kernel_rfl) (by kernel_rfl) (fun _ _ _ h => h) (Or.inl ⟨by rfl, ?hy10⟩) (by assumption) ?rest10
  case hy10 => (intro w hSw; (try dsimp only at hSw); go_simp; try with_reducible rfl)
  try simp only [Act.put, List.setIfInBounds_toArray, List.set_cons_zero, List.set_cons_succ]
  refine wpAnyH_take (i := 11) (oi := ⟨some 52, _, _, _, _, _⟩) (v := ?v11) rfl (by kernel_rfl) (by kernel_rfl) (by kernel_rfl) (fun _ _ _ h => h) (Or.inl ⟨by rfl, ?hy11⟩) (by assumption) ?rest11
  case hy11 => (intro w hSw; (try dsimp only at hSw); go_simp; try with_reducible rfl)
  try simp only [Act.put, List.setIfInBounds_toArray, List.set_cons_zero, List.set_cons_succ]
  refine wpAnyH_ready (rs := [5]) (by kernel_rfl) (by simp) (AllReadyH.cons (o := ⟨some 46, _, _, _, _, _⟩) rfl (fun K hK => ?_) AllReadyH.nil)
  go_simp
  refine (HV.out _ (Fr.drew (Fr.refl _ _))).mono ?_
  rintro e w1 ⟨g1, c1, rfl, p1, p2, hf1⟩
  have hA1 := hA.go (Fr.trans (Fr.drew (Fr.refl [] _)) hf1 (by simp))
  have x2 := hA1.box2 hs
  have x3 := hA1.box3 hs
  refine hK.out _ _ ?_ (fun hHeld => ?_)
  · exact ⟨by assumption, by assumption⟩
  clear hK K
  try simp only [Act.put, List.setIfInBounds_toArray, List.set_cons_zero, List.set_cons_succ]
  refine wpAnyH_ready (rs := [6]) (by kernel_rfl) (by simp) (AllReadyH.cons (o := ⟨some 47, _, _, _, _, _⟩) rfl (fun K hK => ?_) AllReadyH.nil)
  go_simp
  refine (write_ok hA1.alike.disk k hk HDD.out _ _ L p2 HLEN.out).mono ?_
  rintro e w2 ⟨rfl, hd2, hf2⟩
  have F2 := hA1.fr.trans hf2 (by simp)
  obtain ⟨-, y2, y3⟩ := box_cells F2 hs
  have hr2 := hA1.alike.ref.fr hf2 (by have := HN.out; simp; omega) (by have := HN.out; simp; omega)
  refine hK.out _ _ ?_ (fun hHeld => ?_)
  · exact ⟨by assumption, by assumption⟩
  clear hK K
  try simp only [Act.put, List.setIfInBounds_toArray, List.set_cons_zero, List.set_cons_succ]
  refine wpAnyH_ready (rs := [12]) (by kernel_rfl) (by simp) (AllReadyH.cons (o := ⟨some 53, _, _, _, _, _⟩) rfl (fun K hK => ?_) AllReadyH.nil)
  go_simp
  refine (HV.out _ F2).mono ?_
  rintro e w3 ⟨g2, c2, rfl, q1, q2, hf3⟩
  have F3 := F2.trans hf3 (by simp)
  obtain ⟨-, z2, z3⟩ := box_cells F3 hs
  have hr3 := hr2.fr hf3 (by simp) (by simp)
  have hd3 := hd2.fr hf3 (by simp) (by simp)
  refine hK.out _ _ ?_ (fun hHeld => ?_)
  · exact ⟨by assumption, by assumption⟩
  clear hK K
  try simp only [Act.put, List.setIfInBounds_toArray, List.set_cons_zero, List.set_cons_succ]
  refine wpAnyH_ready (rs := [13]) (by kernel_rfl) (by simp) (AllReadyH.cons (o := ⟨some 54, _, _, _, _, _⟩) rfl (fun K hK => ?_) AllReadyH.nil)
  go_simp
  refine (rwrite_ok hr3 k hkr HRL.out hrr _ _ _ L q2 HLEN.out (by have := hr2.sizes; omega)).mono ?_
  rintro e w4 ⟨rfl, hr4, hf4⟩
  have F4 := F3.trans hf4 (by simp)
  obtain ⟨-, u2, u3⟩ := box_cells F4 hs
  have hd4 := hd3.fr hf4 (by have := HN.out; simp; omega) (by have := HN.out; simp; omega)
  have hA4 : At w w4 g bb rg rb cap rest ⟨on, 2, k, data⟩ v (D.write k L) (R.write k L) := ⟨⟨hd4, hr4, write_n h.n, write_bytes h.bytes, write_count h.count, h.left.write HDD.out h.small, h.apart, write_small h.small⟩, F4⟩
  obtain ⟨cnt, HC⟩ : ∃ cnt, Hid ((D.write k L).writes = cnt) := ⟨_, rfl⟩
  have u4 := hA4.cnt HC.out
  obtain ⟨b, HP1, HP2⟩ : ∃ b, Hid ((!(D.write k L).down) = b) ∧ Hid (((R.write k L).left != 0) = b) := ⟨_, rfl, hA4.alike.power.symm⟩
  refine hK.out _ _ ?_ (fun hHeld => ?_)
  · exact ⟨by assumption, by assumption⟩
  clear hK K
  try simp only [Act.put, List.setIfInBounds_toArray, List.set_cons_zero, List.set_cons_succ]
  refine wpAnyH_mono (S' := fun w' => w'.cell? ⟨w.heap.size, 2, none⟩ = some (.int .i64 k) ∧ w'.cell? ⟨w.heap.size, 3, none⟩ = some v ∧ w'.cell? ⟨rg, 1, none⟩ = some (.int .i64 cnt)) (fun _ h => ⟨h.1, h.2.1⟩) _ _ _ _ ?_
  have hH4 : (fun w' : World => w'.cell? ⟨w.heap.size, 2, none⟩ = some (.int .i64 k) ∧ w'.cell? ⟨w.heap.size, 3, none⟩ = some v ∧ w'.cell? ⟨rg, 1, none⟩ = some (.int .i64 cnt)) w4 := ⟨u2, u3, u4⟩
  refine wpAnyH_take (i := 14) (oi := ⟨some 55, _, _, _, _, _⟩) (v := ?v14) rfl (by kernel_rfl) (by kernel_rfl) (by kernel_rfl) (fun _ _ _ h => h) (Or.inl ⟨by rfl, ?hy14⟩) (by assumption) ?rest14
  case hy14 => (intro w hSw; (try dsimp only at hSw); go_simp; try with_reducible rfl)
  try simp only [Act.put, List.setIfInBounds_toArray, List.set_cons_zero, List.set_cons_succ]
  refine wpAnyH_take (i := 15) (oi := ⟨some 56, _, _, _, _, _⟩) (v := ?v15) rfl (by kernel_rfl) (by kernel_rfl) (by kernel_rfl) (fun _ _ _ h => h) (Or.inl ⟨by rfl, ?hy15⟩) (by assumption) ?rest15
  case hy15 => (intro w hSw; (try dsimp only at hSw); go_simp; try with_reducible rfl)
  try simp only [Act.put, List.setIfInBounds_toArray, List.set_cons_zero, List.set_cons_succ]
  refine wpAnyH_take (i := 16) (oi := ⟨some 57, _, _, _, _, _⟩) (v := ?v16) rfl (by kernel_rfl) (by kernel_rfl) (by kernel_rfl) (fun _ _ _ h => h) (Or.inl ⟨by rfl, ?hy16⟩) (by assumption) ?rest16
  case hy16 => (intro w hSw; (try dsimp only at hSw); go_simp; try with_reducible rfl)
  try simp only [Act.put, List.setIfInBounds_toArray, List.set_cons_zero, List.set_cons_succ]
  refine wpAnyH_take (i := 18) (oi := ⟨some 59, _, _, _, _, _⟩) (v := ?v18) rfl (by kernel_rfl) (by kernel_rfl) (by kernel_rfl) (fun _ _ _ h => h) (Or.inl ⟨by rfl, ?hy18⟩) (by assumption) ?rest18
  case hy18 => (intro w hSw; (try dsimp only at hSw); go_simp; try with_reducible rfl)
  try simp only [Act.put, List.setIfInBounds_toArray, List.set_cons_zero, List.set_cons_succ]
  refine wpAnyH_take (i := 19) (oi := ⟨some 60, _, _, _, _, _⟩) (v := ?v19) rfl (by kernel_rfl) (by kernel_rfl) (by kernel_rfl) (fun _ _ _ h => h) (Or.inl ⟨by rfl, ?hy19⟩) (by assumption) ?rest19
  case hy19 => (intro w hSw; (try dsimp only at hSw); go_simp; try with_reducible rfl)
  try simp only [Act.put, List.setIfInBounds_toArray, List.set_cons_zero, List.set_cons_succ]
  refine wpAnyH_take (i := 20) (oi := ⟨some 61, _, _, _, _, _⟩) (v := ?v20) rfl (by kernel_rfl) (by kernel_rfl) (by kernel_rfl) (fun _ _ _ h => h) (Or.inl ⟨by rfl, ?hy20⟩) (by assumption) ?rest20
  case hy20 => (intro w hSw; (try dsimp only at hSw); go_simp; try with_reducible rfl)
  try simp only [Act.put, List.setIfInBounds_toArray, List.set_cons_zero, List.set_cons_succ]
  refine wpAnyH_take (i := 21) (oi := ⟨some 62, _, _, _, _, _⟩) (v := ?v21) rfl (by kernel_rfl) (by kernel_rfl) (by kernel_rfl) (fun _ _ _ h => h) (Or.inl ⟨by rfl, ?hy21⟩) (by assumption) ?rest21
  case hy21 => (intro w hSw; (try dsimp only at hSw); go_simp; try with_reducible rfl)
  try simp only [Act.put, List.setIfInBounds_toArray, List.set_cons_zero, List.set_cons_succ]
  refine wpAnyH_ready (rs := [17]) (by kernel_rfl) (by simp) (AllReadyH.cons (o := ⟨some 58, _, _, _, _, _⟩) rfl (fun K hK => ?_) AllReadyH.nil)
  go_simp
  refine (writes_is hA4.alike.disk HC.out).mono ?_
  rintro e w5 ⟨rfl, rfl⟩
  refine hK.out _ _ ?_ (fun hHeld => ?_)
  · exact ⟨by assumption, by assumption, by assumption⟩
  clear hK K
  try simp only [Act.put, List.setIfInBounds_toArray, List.set_cons_zero, List.set_cons_succ]
  refine wpAnyH_take (i := 22) (oi := ⟨some 63, _, _, _, _, _⟩) (v := ?v22) rfl (by kernel_rfl) (by kernel_rfl) (by kernel_rfl) (fun _ _ _ h => h) (Or.inl ⟨by rfl, ?hy22⟩) (by assumption) ?rest22
  case hy22 => (intro w hSw; (try dsimp only at hSw); go_simp; try with_reducible rfl)
  try simp only [Act.put, List.setIfInBounds_toArray, List.set_cons_zero, List.set_cons_succ]
  refine wpAnyH_take (i := 23) (oi := ⟨some 64, _, _, _, _, _⟩) (v := ?v23) rfl (by kernel_rfl) (by kernel_rfl) (by kernel_rfl) (fun _ _ _ h => h) (Or.inl ⟨by rfl, ?hy23⟩) (by assumption) ?rest23
  case hy23 => (intro w hSw; (try dsimp only at hSw); go_simp; try with_reducible rfl)
  try simp only [Act.put, List.setIfInBounds_toArray, List.set_cons_zero, List.set_cons_succ]
  refine wpAnyH_take (i := 24) (oi := ⟨some 65, _, _, _, _, _⟩) (v := ?v24) rfl (by kernel_rfl) (by kernel_rfl) (by kernel_rfl) (fun _ _ _ h => h) (Or.inl ⟨by rfl, ?hy24⟩) (by assumption) ?rest24
  case hy24 => (intro w hSw; (try dsimp only at hSw); go_simp; try with_reducible rfl)
  try simp only [Act.put, List.setIfInBounds_toArray, List.set_cons_zero, List.set_cons_succ]
  refine wpAnyH_take (i := 25) (oi := ⟨some 66, _, _, _, _, _⟩) (v := ?v25) rfl (by kernel_rfl) (by kernel_rfl) (by kernel_rfl) (fun _ _ _ h => h) (Or.inl ⟨by rfl, ?hy25⟩) (by assumption) ?rest25
  case hy25 => (intro w hSw; (try dsimp only at hSw); go_simp; try with_reducible rfl)
  try simp only [Act.put, List.setIfInBounds_toArray, List.set_cons_zero, List.set_cons_succ]
  refine wpAnyH_take (i := 27) (oi := ⟨some 68, _, _, _, _, _⟩) (v := ?v27) rfl (by kernel_rfl) (by kernel_rfl) (by kernel_rfl) (fun _ _ _ h => h) (Or.inl ⟨by rfl, ?hy27⟩) (by assumption) ?rest27
  case hy27 => (intro w hSw; (try dsimp only at hSw); go_simp; try with_reducible rfl)
  try simp only [Act.put, List.setIfInBounds_toArray, List.set_cons_zero, List.set_cons_succ]
  refine wpAnyH_ready (rs := [26]) (by kernel_rfl) (by simp) (AllReadyH.cons (o := ⟨some 67, _, _, _, _, _⟩) rfl (fun K hK => ?_) AllReadyH.nil)
  go_simp
  refine (power_is hA4.alike.disk HP1.out).mono ?_
  rintro e w5 ⟨rfl, rfl⟩
  refine hK.out _ _ ?_ (fun hHeld => ?_)
  · exact ⟨by assumption, by assumption, by assumption⟩
  clear hK K
  try simp only [Act.put, List.setIfInBounds_toArray, List.set_cons_zero, List.set_cons_succ]
  refine wpAnyH_ready (rs := [28]) (by kernel_rfl) (by simp) (AllReadyH.cons (o := ⟨some 69, _, _, _, _, _⟩) rfl (fun K hK => ?_) AllReadyH.nil)
  go_simp
  refine (rpower_is hA4.alike.ref HP2.out).mono ?_
  rintro e w5 ⟨rfl, rfl⟩
  refine hK.out _ _ ?_ (fun hHeld => ?_)
  · exact ⟨by assumption, by assumption, by assumption⟩
  clear hK K
  try simp only [Act.put, List.setIfInBounds_toArray, List.set_cons_zero, List.set_cons_succ]
  refine wpAnyH_take (i := 29) (oi := ⟨some 70, _, _, _, _, _⟩) (v := ?v29) rfl (by kernel_rfl) (by kernel_rfl) (by kernel_rfl) (fun _ _ _ h => h) (Or.inl ⟨by rfl, ?hy29⟩) (by assumption) ?rest29
  case hy29 => (intro w hSw; (try dsimp only at hSw); go_simp; try with_reducible rfl)
  try simp only [Act.put, List.setIfInBounds_toArray, List.set_cons_zero, List.set_cons_succ]
  refine wpAnyH_take (i := 30) (oi := ⟨some 71, _, _, _, _, _⟩) (v := ?v30) rfl (by kernel_rfl) (by kernel_rfl) (by kernel_rfl) (fun _ _ _ h => h) (Or.inl ⟨by rfl, ?hy30⟩) (by assumption) ?rest30
  case hy30 => (intro w hSw; (try dsimp only at hSw); go_simp; try with_reducible rfl)
  try simp only [Act.put, List.setIfInBounds_toArray, List.set_cons_zero, List.set_cons_succ]
  refine wpAnyH_take (i := 31) (oi := ⟨some 6, _, _, _, _, _⟩) (v := ?v31) rfl (by kernel_rfl) (by kernel_rfl) (by kernel_rfl) (fun _ _ _ h => h) (Or.inl ⟨by rfl, ?hy31⟩) (by assumption) ?rest31
  case hy31 => (intro w hSw; (try dsimp only at hSw); go_simp; try with_reducible rfl)
  try simp only [Act.put, List.setIfInBounds_toArray, List.set_cons_zero, List.set_cons_succ]
  refine wpAnyH_done (by kernel_rfl) ?_ _
  go_wp2_with fail
  go_ret
  exact hA4.played

end Go.Proofs.Ytmdmdjolfahjbaa
