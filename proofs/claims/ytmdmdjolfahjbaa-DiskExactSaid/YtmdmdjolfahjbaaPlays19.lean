/- One call of a disk and of the reference's (layer 19): the answers are the same, and they stay alike. -/
import Derived.Test.YtmdmdjolfahjbaaRef19w
import Derived.Test.YtmdmdjolfahjbaaOpD
import Derived.Deep.QuietTactic
import Derived.BigQuiet
namespace Go.Proofs.Ytmdmdjolfahjbaa
open Go.RowKit

/-- What binds the two. -/
def LeftRel (D : Dk) (R : Rk) : Prop :=
  (D.down = true ∧ R.left = 0) ∨ (D.down = false ∧ D.fused = true ∧ R.left = D.left ∧ 0 < D.left) ∨ (D.down = false ∧ D.fused = false ∧ R.left = -1)

structure Alike (w : World) (g bb : Nat) (D : Dk) (rg rb cap : Nat) (rest : List Value) (R : Rk) : Prop where
  disk : IsDisk w g bb D
  ref : IsRef w rg rb cap rest R
  n : D.n = R.n
  bytes : D.bytes = R.bytes
  count : D.writes = R.count
  left : LeftRel D R
  apart : bb ≠ rb
  small : D.left ≤ 9223372036854775807

theorem Alike.power {w : World} {g bb : Nat} {D : Dk} {rg rb cap : Nat} {rest : List Value} {R : Rk} (h : Alike w g bb D rg rb cap rest R) : (!D.down) = (R.left != 0) := by
  rcases h.left with ⟨a, b⟩ | ⟨a, _, b, c⟩ | ⟨a, _, b⟩
  · simp [a, b]
  · rw [a, b]; simp; omega
  · simp [a, b]
theorem Alike.err {w : World} {g bb : Nat} {D : Dk} {rg rb cap : Nat} {rest : List Value} {R : Rk} (h : Alike w g bb D rg rb cap rest R) (i : Int) : D.blockErr i = R.err i 16 := by
  have hp := h.power
  unfold Dk.blockErr Rk.err
  rw [h.n]
  by_cases c : i < 0 ∨ (R.n : Int) ≤ i
  · have c2 : i < 0 ∨ (R.n : Int) ≤ i ∨ 16 ≠ 16 := by omega
    rw [if_pos c, if_pos c2]
  · have c2 : ¬ (i < 0 ∨ (R.n : Int) ≤ i ∨ 16 ≠ 16) := by omega
    rw [if_neg c, if_neg c2]
    cases hd : D.down
    · have : R.left ≠ 0 := by rw [hd] at hp; simpa using hp
      simp [this]
    · have : R.left = 0 := by rw [hd] at hp; simpa using hp
      simp [this]
theorem Alike.fr {S : List Nat} {w w' : World} {g bb : Nat} {D : Dk} {rg rb cap : Nat} {rest : List Value} {R : Rk} (h : Alike w g bb D rg rb cap rest R) (hf : Fr S w w') (h1 : g ∉ S) (h2 : bb ∉ S) (h3 : rg ∉ S) (h4 : rb ∉ S) : Alike w' g bb D rg rb cap rest R :=
  ⟨h.disk.fr hf h1 h2, h.ref.fr hf h3 h4, h.n, h.bytes, h.count, h.left, h.apart, h.small⟩
theorem Alike.nes {w : World} {g bb : Nat} {D : Dk} {rg rb cap : Nat} {rest : List Value} {R : Rk} (h : Alike w g bb D rg rb cap rest R) : g ≠ bb ∧ rg ≠ rb ∧ g ≠ rg ∧ g ≠ rb ∧ bb ≠ rg ∧ bb ≠ rb := by
  refine ⟨h.disk.ne, h.ref.ne, ?_, ?_, ?_, h.apart⟩
  · rintro rfl; have := h.disk.obj.symm.trans h.ref.obj; simp at this
  · rintro rfl; have := h.disk.obj.symm.trans h.ref.row; simp at this
  · rintro rfl; have := h.disk.row.symm.trans h.ref.obj; simp at this

theorem conv_nil (w : World) : (convert 31 9 (.slice none 0 0)).run Try.prog w = .ok (.string ByteArray.empty) w :=
  run_convert_bytes_nil w 31 5 Try.underlying31 Try.underlying5 0 0 9 Try.underlying9

def opVal (o : OpD) (v : Value) : Value := .agg #[.int .i64 o.on, .int .i64 o.act, .int .i64 o.n, v]
def opCells (o : OpD) (v : Value) : Array Value := #[.int .i64 o.on, .int .i64 o.act, .int .i64 o.n, v]

/-- What a call of one disk and of the other's leaves. -/
def Played (w : World) (g bb rg rb cap : Nat) (rest : List Value) (e : Ending) (w' : World) : Prop :=
  e = .returned (.bool true) ∧ ∃ D R, Alike w' g bb D rg rb cap rest R ∧ Fr [g, bb, rg, rb] w w'

/-- The box of the call. -/
theorem box_cells {w w' : World} {o : OpD} {v : Value} {S : List Nat} (hf : Fr S (w.alloc (.cells (opCells o v) 33)) w') (hS : ∀ x ∈ S, x < w.heap.size) :
    w'.cell? ⟨w.heap.size, 1, none⟩ = some (.int .i64 o.act) ∧ w'.cell? ⟨w.heap.size, 2, none⟩ = some (.int .i64 o.n) ∧ w'.cell? ⟨w.heap.size, 3, none⟩ = some v := by
  have h := hf.heap (heap_new w (.cells (opCells o v) 33)) (fun hm => by have := hS _ hm; omega)
  exact ⟨blk_cell' h rfl, blk_cell' h rfl, blk_cell' h rfl⟩

theorem power_is {w : World} {g bb : Nat} {D : Dk} (h : IsDisk w g bb D) {b : Bool} (hb : (!D.down) = b) : Calls Try.prog 10 #[.pointer (some ⟨g, 0, none⟩)] w fun e w' => e = .returned (.bool b) ∧ w = w' := by
  subst hb; exact power_any h
theorem rpower_is {w : World} {g bb cap : Nat} {rest : List Value} {R : Rk} (h : IsRef w g bb cap rest R) {b : Bool} (hb : (R.left != 0) = b) : Calls Try.prog 33 #[.pointer (some ⟨g, 0, none⟩)] w fun e w' => e = .returned (.bool b) ∧ w = w' := by
  subst hb; exact rpower_any h

theorem plays_read {w : World} {g bb : Nat} {D : Dk} {rg rb cap : Nat} {rest : List Value} {R : Rk} (h : Alike w g bb D rg rb cap rest R) (o : OpD) (v : Value) (ho : o.act = 1) :
    Calls Try.prog 21 #[.pointer (some ⟨g, 0, none⟩), .pointer (some ⟨rg, 0, none⟩), opVal o v] w (Played w g bb rg rb cap rest) := by
  have hb := h.fr ((Fr.refl [] w).alloc (.cells (opCells o v) 33)) (by simp) (by simp) (by simp) (by simp)
  have FR := (Fr.refl [g, bb, rg, rb] w).alloc (.cells (opCells o v) 33)
  have BOX := @box_cells w
  obtain ⟨on, act, n, data⟩ := o
  obtain rfl : act = 1 := ho
  have BOX := fun w' S => @BOX w' ⟨on, 1, n, data⟩ v S
  simp only [opCells] at BOX
  unfold opVal
  simp only [opCells] at hb FR
  have HBOX := Lib.hid BOX
  clear BOX
  by_cases he : D.blockErr n = 0
  · have hnn : 0 ≤ n ∧ n < D.n ∧ D.down = false := by
      unfold Dk.blockErr at he
      by_cases c : n < 0 ∨ (D.n : Int) ≤ n
      · rw [if_pos c] at he; cases he
      · rw [if_neg c] at he
        cases hd : D.down
        · exact ⟨by omega, by omega, rfl⟩
        · simp [hd] at he
    obtain ⟨n0, hn1, hdn⟩ := hnn
    obtain ⟨k, rfl⟩ := Int.eq_ofNat_of_zero_le n0
    have hkn : k < D.n := by omega
    have hrl : R.left ≠ 0 := by have := h.power; rw [hdn] at this; simpa using this
    have hdat : D.at k = R.at k := by unfold Dk.at Rk.at; rw [h.bytes]
    have HDAT := Lib.hid hdat
    have hal := Dk.at_len h.disk.len hkn
    have HAL := Lib.hid hal
    have HDN := Lib.hid hdn
    have hkr : k < R.n := by have := h.n; omega
    clear he hdat hal hdn n0
    go_enter Try.func21, Try.ntmps21
    go_wp2_with fail
    refine (read_ok hb.disk k hkn HDN.out).mono ?_
    rintro e w2 ⟨g1, c1, r1, rfl, p1, p2, p3, p4, hf1⟩
    have hb2 := hb.fr hf1 (by simp) (by simp) (by simp) (by simp)
    obtain ⟨-, x2, -⟩ := HBOX.out _ _ hf1 (by simp)
    have P2 := Lib.hid p2
    clear p2 p3
    go_wp2_with fail
    refine (rread_ok hb2.ref k hkr hrl).mono ?_
    rintro e w3 ⟨g2, c2, r2, rfl, q1, q2, q3, q4, hf2⟩
    have a1 := conv_u8 (cells_append (hf2.heap P2.out (by simp))) 16 c1 HAL.out
    have a2 := conv_u8 (cells_append q2) 16 c2 (by rw [← HDAT.out]; exact HAL.out)
    rw [← HDAT.out] at a2
    have hb3 := hb2.fr hf2 (by simp) (by simp) (by simp) (by simp)
    have F3 := ((FR.trans hf1 (by simp)).trans hf2 (by simp))
    clear q2 q3
    generalize (⟨(D.at k).toArray⟩ : ByteArray) = S at a1 a2
    go_wp2_with fail
    go_ret
    exact ⟨rfl, D, R, hb3, F3⟩
  · have hz := h.err n
    have hre : R.err n 16 ≠ 0 := by rw [← hz]; exact he
    have HZ := Lib.hid hz
    have a1 := conv_nil
    clear hz
    go_enter Try.func21, Try.ntmps21
    go_wp2_with fail
    refine (read_bad hb.disk n he).mono ?_
    rintro e w2 ⟨rfl, rfl⟩
    obtain ⟨-, x2, -⟩ := HBOX.out _ [] (Fr.refl _ _) (by simp)
    go_wp2_with fail
    refine (rread_bad hb.ref n hre).mono ?_
    rintro e w3 ⟨he3, rfl⟩
    rw [← HZ.out] at he3
    subst he3
    go_wp2_with fail
    go_ret
    exact ⟨rfl, D, R, hb, FR⟩

theorem LeftRel.fuse {D : Dk} {R : Rk} (h : LeftRel D R) (k : Int) : LeftRel (D.fuse k) (R.fuse k) := by
  rcases h with ⟨a, b⟩ | ⟨a, b, c, d⟩ | ⟨a, b, c⟩
  · left; simp [Dk.fuse, Rk.fuse, a, b]
  all_goals
    have hr : R.left ≠ 0 := by omega
    unfold Dk.fuse Rk.fuse
    rw [a, if_neg hr]
    rcases Int.lt_trichotomy k 0 with hk | hk | hk
    · right; right; simp [hk]; omega
    · left; simp [hk]
    · right; left; simp; omega

theorem fuse_n {D : Dk} {R : Rk} (h : D.n = R.n) (k : Int) : (D.fuse k).n = (R.fuse k).n := by unfold Dk.fuse Rk.fuse; split <;> split <;> exact h
theorem fuse_bytes {D : Dk} {R : Rk} (h : D.bytes = R.bytes) (k : Int) : (D.fuse k).bytes = (R.fuse k).bytes := by unfold Dk.fuse Rk.fuse; split <;> split <;> exact h
theorem fuse_count {D : Dk} {R : Rk} (h : D.writes = R.count) (k : Int) : (D.fuse k).writes = (R.fuse k).count := by unfold Dk.fuse Rk.fuse; split <;> split <;> exact h
theorem fuse_small {D : Dk} {k M : Int} (h : D.left ≤ M) (hk : k ≤ M) : (D.fuse k).left ≤ M := by unfold Dk.fuse; split; exact h; exact hk

theorem plays_fuse {w : World} {g bb : Nat} {D : Dk} {rg rb cap : Nat} {rest : List Value} {R : Rk} (h : Alike w g bb D rg rb cap rest R) (o : OpD) (v : Value) (ho : o.act = 3) (hon : o.n ≤ 9223372036854775807) :
    Calls Try.prog 21 #[.pointer (some ⟨g, 0, none⟩), .pointer (some ⟨rg, 0, none⟩), opVal o v] w (Played w g bb rg rb cap rest) := by
  have hb := h.fr ((Fr.refl [] w).alloc (.cells (opCells o v) 33)) (by simp) (by simp) (by simp) (by simp)
  have FR := (Fr.refl [g, bb, rg, rb] w).alloc (.cells (opCells o v) 33)
  have hsz := h.disk.sizes
  have hsr := h.ref.sizes
  have BOX := @box_cells w
  obtain ⟨on, act, n, data⟩ := o
  obtain rfl : act = 3 := ho
  have BOX := fun w' S => @BOX w' ⟨on, 3, n, data⟩ v S
  simp only [opCells] at BOX
  unfold opVal
  simp only [opCells] at hb FR
  have HBOX := Lib.hid BOX
  have hnes := h.nes
  have HN := Lib.hid hnes
  clear BOX hnes
  go_enter Try.func21, Try.ntmps21
  go_wp2_with fail
  refine (fuse_any hb.disk n).mono ?_
  rintro e w2 ⟨rfl, hd2, hf2⟩
  obtain ⟨-, x2, -⟩ := HBOX.out _ _ hf2 (by simp; omega)
  have hr2 := hb.ref.fr hf2 (by have := HN.out; simp; omega) (by have := HN.out; simp; omega)
  go_wp2_with fail
  refine (rfuse_any hr2 n).mono ?_
  rintro e w3 ⟨rfl, hr3, hf3⟩
  have hd3 := hd2.fr hf3 (by have := HN.out; simp; omega) (by have := HN.out; simp; omega)
  have hl := h.left.fuse n
  have A3 : Alike w3 g bb (D.fuse n) rg rb cap rest (R.fuse n) := ⟨hd3, hr3, fuse_n h.n n, fuse_bytes h.bytes n, fuse_count h.count n, hl, h.apart, fuse_small h.small hon⟩
  have F3 := (FR.trans hf2 (by simp)).trans hf3 (by simp)
  obtain ⟨x1, -, -⟩ := HBOX.out _ [g, rg] ((hf2.mono (by simp)).trans hf3 (by simp)) (by simp; omega)
  obtain ⟨b, HP1, HP2⟩ : ∃ b, Hid ((!(D.fuse n).down) = b) ∧ Hid (((R.fuse n).left != 0) = b) := ⟨_, rfl, A3.power.symm⟩
  go_wp2_with fail
  go_quiet ((first | (go_at_call 10; exact quiet_call (power_is (hd3.fr ((Fr.refl [] _).drewN _) (by simp) (by simp)) HP1.out)) | (go_at_call 33; exact quiet_call (rpower_is (hr3.fr ((Fr.refl [] _).drewN _) (by simp) (by simp)) HP2.out))))
  go_wp2_with fail
  go_ret
  exact ⟨rfl, _, _, A3.fr ((Fr.refl [] _).drewN _) (by simp) (by simp) (by simp) (by simp), F3.drewN _⟩

theorem LeftRel.restart {D : Dk} {R : Rk} : LeftRel { D with down := false, fused := false } { R with left := -1 } := Or.inr (Or.inr ⟨rfl, rfl, rfl⟩)

theorem plays_restart {w : World} {g bb : Nat} {D : Dk} {rg rb cap : Nat} {rest : List Value} {R : Rk} (h : Alike w g bb D rg rb cap rest R) (o : OpD) (v : Value) (ho : o.act = 4) :
    Calls Try.prog 21 #[.pointer (some ⟨g, 0, none⟩), .pointer (some ⟨rg, 0, none⟩), opVal o v] w (Played w g bb rg rb cap rest) := by
  have hb := h.fr ((Fr.refl [] w).alloc (.cells (opCells o v) 33)) (by simp) (by simp) (by simp) (by simp)
  have FR := (Fr.refl [g, bb, rg, rb] w).alloc (.cells (opCells o v) 33)
  have hsz := h.disk.sizes
  have hsr := h.ref.sizes
  have BOX := @box_cells w
  obtain ⟨on, act, n, data⟩ := o
  obtain rfl : act = 4 := ho
  have BOX := fun w' S => @BOX w' ⟨on, 4, n, data⟩ v S
  simp only [opCells] at BOX
  unfold opVal
  simp only [opCells] at hb FR
  have HBOX := Lib.hid BOX
  have hnes := h.nes
  have HN := Lib.hid hnes
  clear BOX hnes
  go_enter Try.func21, Try.ntmps21
  go_wp2_with fail
  refine (restart_any hb.disk).mono ?_
  rintro e w2 ⟨rfl, hd2, hf2⟩
  have hr2 := hb.ref.fr hf2 (by have := HN.out; simp; omega) (by have := HN.out; simp; omega)
  go_wp2_with fail
  refine (rrestart_any hr2).mono ?_
  rintro e w3 ⟨rfl, hr3, hf3⟩
  have hd3 := hd2.fr hf3 (by have := HN.out; simp; omega) (by have := HN.out; simp; omega)
  have A3 : Alike w3 g bb { D with down := false, fused := false } rg rb cap rest { R with left := -1 } := ⟨hd3, hr3, h.n, h.bytes, h.count, LeftRel.restart, h.apart, h.small⟩
  have F3 := (FR.trans hf2 (by simp)).trans hf3 (by simp)
  obtain ⟨x1, -, -⟩ := HBOX.out _ [g, rg] ((hf2.mono (by simp)).trans hf3 (by simp)) (by simp; omega)
  go_wp2_with fail
  go_quiet ((first | (go_at_call 10; exact quiet_call (power_is (b := true) (hd3.fr ((Fr.refl [] _).drewN _) (by simp) (by simp)) rfl)) | (go_at_call 33; exact quiet_call (rpower_is (b := true) (hr3.fr ((Fr.refl [] _).drewN _) (by simp) (by simp)) rfl))))
  go_wp2_with fail
  go_ret
  exact ⟨rfl, _, _, A3.fr ((Fr.refl [] _).drewN _) (by simp) (by simp) (by simp) (by simp), F3.drewN _⟩

theorem plays_other {w : World} {g bb : Nat} {D : Dk} {rg rb cap : Nat} {rest : List Value} {R : Rk} (h : Alike w g bb D rg rb cap rest R) (o : OpD) (v : Value) (ho : o.act ≠ 1 ∧ o.act ≠ 2 ∧ o.act ≠ 3 ∧ o.act ≠ 4 ∧ o.act ≠ 5) :
    Calls Try.prog 21 #[.pointer (some ⟨g, 0, none⟩), .pointer (some ⟨rg, 0, none⟩), opVal o v] w (Played w g bb rg rb cap rest) := by
  have hb := h.fr ((Fr.refl [] w).alloc (.cells (opCells o v) 33)) (by simp) (by simp) (by simp) (by simp)
  have FR := (Fr.refl [g, bb, rg, rb] w).alloc (.cells (opCells o v) 33)
  obtain ⟨on, act, n, data⟩ := o
  have g1 : (act == 1) = false := by simpa using ho.1
  have g2 : (act == 2) = false := by simpa using ho.2.1
  have g3 : (act == 3) = false := by simpa using ho.2.2.1
  have g4 : (act == 4) = false := by simpa using ho.2.2.2.1
  have g5 : (act != 5) = true := by simpa using ho.2.2.2.2
  unfold opVal
  simp only [opCells] at hb FR
  have hd3 := hb.disk
  have hr3 := hb.ref
  clear ho
  obtain ⟨b, HP1, HP2⟩ : ∃ b, Hid ((!D.down) = b) ∧ Hid ((R.left != 0) = b) := ⟨_, rfl, h.power.symm⟩
  go_enter Try.func21, Try.ntmps21
  go_wp2_with fail
  go_quiet ((first | (go_at_call 10; exact quiet_call (power_is (hd3.fr ((Fr.refl [] _).drewN _) (by simp) (by simp)) HP1.out)) | (go_at_call 33; exact quiet_call (rpower_is (hr3.fr ((Fr.refl [] _).drewN _) (by simp) (by simp)) HP2.out))))
  go_wp2_with fail
  go_ret
  exact ⟨rfl, _, _, hb.fr ((Fr.refl [] _).drewN _) (by simp) (by simp) (by simp) (by simp), FR.drewN _⟩
end Go.Proofs.Ytmdmdjolfahjbaa
