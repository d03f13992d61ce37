/- The reference's Write (layer 19). -/
import Derived.Test.YtmdmdjolfahjbaaRef19
import Derived.Deep.RegionHeld3
namespace Go.Proofs.Ytmdmdjolfahjbaa
open Go.RowKit

theorem rwrite_bad {w : World} {g bb cap : Nat} {rest : List Value} {R : Rk} (h : IsRef w g bb cap rest R) (i : Int) (sp : Option Addr) (n c : Nat) (hi : R.err i n ≠ 0) :
    Calls Try.prog 32 #[.pointer (some ⟨g, 0, none⟩), .int .i64 i, .slice sp n c] w fun e w' =>
    e = .returned (.int .i64 (R.err i n)) ∧ w = w' := by
  have h2 := h.c2
  by_cases c1 : i < 0
  · have e1 : R.err i n = 1 := by simp [Rk.err, c1]
    rw [e1]
    clear e1 hi
    go_enter Try.func32, Try.ntmps32
    go_wp2_with fail
    go_ret
    exact ⟨rfl, rfl⟩
  · by_cases c2 : (R.n : Int) ≤ i
    · have e1 : R.err i n = 1 := by simp [Rk.err, c2]
      rw [e1]
      clear e1 hi
      go_enter Try.func32, Try.ntmps32
      go_wp2_with fail
      refine (rblocks_any h).mono ?_
      rintro e w' ⟨rfl, rfl⟩
      go_wp2_with fail
      go_ret
      exact ⟨rfl, rfl⟩
    · by_cases c3 : n ≠ 16
      · have e1 : R.err i n = 1 := by simp [Rk.err, c3]
        have g1 : ((n : Int) != 16) = true := by simp; omega
        rw [e1]
        clear e1 hi
        go_enter Try.func32, Try.ntmps32
        go_wp2_with fail
        refine (rblocks_any h).mono ?_
        rintro e w' ⟨rfl, rfl⟩
        go_wp2_with fail
        go_ret
        exact ⟨rfl, rfl⟩
      · by_cases hl : R.left = 0
        · have e1 : R.err i n = 50 := by simp [Rk.err, c1, c2, c3, hl]
          have g1 : ((n : Int) != 16) = false := by simp; omega
          have hb : (R.left == 0) = true := by simp [hl]
          rw [e1]
          clear e1 hi hl
          go_enter Try.func32, Try.ntmps32
          go_wp2_with fail
          refine (rblocks_any h).mono ?_
          rintro e w' ⟨rfl, rfl⟩
          go_wp2_with fail
          go_ret
          exact ⟨rfl, rfl⟩
        · exact absurd (by simp [Rk.err, c1, c2, c3, hl]) hi

def Rk.write (R : Rk) (i : Nat) (data : List UInt8) : Rk :=
  { R with bytes := splice R.bytes (16 * i) data, count := wrap64 (R.count + 1), left := if 0 < R.left then R.left - 1 else R.left }

theorem splice_succ (L : List UInt8) (i : Nat) (data : List UInt8) (m : Nat) (hm : m < data.length) (hL : 16 * i + data.length ≤ L.length) :
    splice L (16 * i) (data.take (m + 1)) = (splice L (16 * i) (data.take m)).set (16 * i + m) data[m] := by
  have e1 : (data.take (m + 1)).length = m + 1 := by simp; omega
  have e2 : (data.take m).length = m := by simp; omega
  unfold splice
  rw [e1, e2, List.take_succ_eq_append_getElem hm, List.set_append_right _ _ (by simp; omega)]
  congr 1
  have e3 : 16 * i + m - (L.take (16 * i)).length = m := by simp; omega
  rw [e3, List.append_assoc, List.set_append_right _ _ (by omega), e2, Nat.sub_self]
  congr 1
  rw [List.drop_eq_getElem_cons (by omega : 16 * i + m < L.length)]
  rfl

theorem rwrite_ok {w : World} {g bb cap : Nat} {rest : List Value} {R : Rk} (h : IsRef w g bb cap rest R) (i : Nat) (hi : i < R.n) (hl : R.left ≠ 0) (hll : -9223372036854775808 ≤ R.left ∧ R.left ≤ 9223372036854775807) (db dof c : Nat) (data : List UInt8) (hd : Cells w ⟨db, dof, none⟩ (data.map u8v)) (hdl : data.length = 16) (hne : db ≠ bb) :
    Calls Try.prog 32 #[.pointer (some ⟨g, 0, none⟩), .int .i64 i, .slice (some ⟨db, dof, none⟩) 16 c] w fun e w' =>
    e = .returned (.int .i64 0) ∧ IsRef w' g bb cap rest (R.write i data) ∧ Fr [g, bb] w w' := by
  have h2 := h.c2
  have hb : (R.left == 0) = false := by simp [hl]
  have hhi := h.hi
  have c1 : ¬ (i : Int) < 0 := by omega
  have c2 : ¬ (R.n : Int) ≤ i := by omega
  have gd : decide (R.n ≤ i) = false := by simp; omega
  have hlen := h.len
  have HLEN := Lib.hid hlen
  have hcap := h.capLe
  have HD := Lib.hid hdl
  have HL := Lib.hid hl
  clear hlen hdl hl
  go_enter Try.func32, Try.ntmps32
  go_wp2_with fail
  refine (rblocks_any h).mono ?_
  rintro e w' ⟨rfl, rfl⟩
  go_wp2_with fail
  go_loopg [7] 16 (fun left s7 wr => ∃ m : Nat, m ≤ 16 ∧ left = 16 - m ∧ s7 = .int .i64 m ∧ IsRef wr g bb cap rest { R with bytes := splice R.bytes (16 * i) (data.take m) } ∧ Fr [bb] w wr)
  case atStart => exact ⟨0, by omega, rfl, rfl, by simpa [splice] using h, Fr.refl _ _⟩
  case round =>
    obtain ⟨m, hm, rfl, rfl, hr, hfr⟩ := hrel
    by_cases hm8 : m < 16
    · have g1 : decide ((m : Int) < 16) = true := by simp; omega
      have r0 := hr.c0
      have r1 := (hd.fr hfr (by simp [hne])).lit m (u8v (data[m]'(by rw [HD.out]; exact hm8))) (by simp [HD.out, hm8])
      have r1' : wr.cell? ⟨db, dof + m, none⟩ = some (.int .u8 ((data[m]'(by rw [HD.out]; exact hm8)).toNat : Int)) := r1
      have r2 : ∃ x, wr.cell? ⟨bb, i * 16 + m, none⟩ = some x := ⟨_, hr.cellAt (i * 16 + m) (by show _ < 16 * R.n; omega)⟩
      obtain ⟨x, r2⟩ := r2
      have r3 : wr.frozen? ⟨bb, i * 16 + m, none⟩ = false := blk_free hr.row _
      have b1 : (0 : Int) ≤ (i : Int) * 16 + m := by omega
      have b2 : (i : Int) * 16 + m < ((16 * R.n : Nat) : Int) := by omega
      have b3 : (m : Int) < 16 := by omega
      have b4 : (i : Int) * 16 + m < 16 * (R.n : Int) := by omega
      have hgb := h.ne
      have k0 := fun v => (World.cell?_setCell_other (w := wr) (v := v) (a := ⟨bb, i * 16 + m, none⟩) (b := ⟨g, 0, none⟩) (by simp)).trans r0
      have k1 := fun v => (World.cell?_setCell_other (w := wr) (v := v) (a := ⟨bb, i * 16 + m, none⟩) (b := ⟨db, dof + m, none⟩) (by simp)).trans r1'
      have e1 : IntKind.i64.wrap ((i : Int) * 16) = (i : Int) * 16 := IntWalk.i64_in _ (by omega)
      have e2 : IntKind.i64.wrap ((i : Int) * 16 + m) = (i : Int) * 16 + m := IntWalk.i64_in _ (by omega)
      have e3 : ((i : Int) * 16 + m).toNat = i * 16 + m := by omega
      clear r1
      go_wp2_with fail
      go_region_held3 (fun w' => w'.cell? ⟨g, 0, none⟩ = some (.slice (some ⟨bb, 0, none⟩) (16 * R.n) cap) ∧ w'.cell? ⟨db, dof + m, none⟩ = some (.int .u8 ((data[m]'(by rw [HD.out]; exact hm8)).toNat : Int))) (first | go_keep | exact ⟨k0 _, k1 _⟩) (fail)
      go_wp2_with fail
      have hset := hr.setB (16 * i + m) (by show _ < 16 * R.n; omega) (data[m]'(by rw [HD.out]; exact hm8))
      go_roundg (16 - (m + 1))
      case rel =>
        refine ⟨m + 1, by omega, rfl, by go_num, ?_, (hfr.set (by simp) _).drew⟩
        have hs := splice_succ R.bytes i data m (by rw [HD.out]; exact hm8) (by rw [HD.out, HLEN.out]; omega)
        rw [← hs, show 16 * i + m = i * 16 + m by omega] at hset
        exact hset.fr ((Fr.refl [] _).drew) (by simp) (by simp)
      case measure => omega
    · have e16 : data.take m = data := List.take_of_length_le (by rw [HD.out]; omega)
      rw [e16] at hr
      have q1 := hr.c1
      have q2 := hr.c2
      have f1 := hr.f 1
      have f2 := hr.f 2
      have hs := hr.set1 (wrap64 (R.count + 1))
      by_cases hp : 0 < R.left
      · have g1 : decide (0 < R.left) = true := by simpa using hp
        have e1 : R.write i data = { R with bytes := splice R.bytes (16 * i) data, count := wrap64 (R.count + 1), left := R.left - 1 } := by simp [Rk.write, hp]
        have E1 := Lib.hid e1
        clear e1
        go_wp2_with fail
        go_ret
        rw [E1.out]
        exact ⟨rfl, hs.set2 (R.left - 1), ((hfr.mono (by simp)).set (by simp) _).set (by simp) _⟩
      · have g1 : decide (0 < R.left) = false := by simpa using hp
        have e1 : R.write i data = { R with bytes := splice R.bytes (16 * i) data, count := wrap64 (R.count + 1) } := by simp [Rk.write, hp]
        have E1 := Lib.hid e1
        clear e1
        go_wp2_with fail
        go_ret
        rw [E1.out]
        exact ⟨rfl, hs, (hfr.mono (by simp)).set (by simp) _⟩
end Go.Proofs.Ytmdmdjolfahjbaa
