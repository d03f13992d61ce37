/- What a Book compares: lists of ints, of texts, of bytes. -/
import Derived.Test.YtjdkdakepomhdaaLookU
import Derived.Deep.QuietTactic
import Derived.BigQuiet
namespace Go.Proofs.Ytjdkdakepomhdaa
open Go.RowKit

theorem Sl.drewN {w : World} {v : Value} {l : List Value} (h : Sl w v l) (n : Nat) : Sl (w.drewN n) v l := by
  obtain ⟨p, c, h1, h2⟩ := h
  refine ⟨p, c, h1, fun hl => ?_⟩
  obtain ⟨b, o, h3, h4⟩ := h2 hl
  exact ⟨b, o, h3, h4.fr ((Fr.refl [] w).drewN n) (fun _ => List.not_mem_nil)⟩
theorem drewN_zero (w : World) : w = w.drewN 0 := rfl

set_option maxRecDepth 100000 in
set_option maxHeartbeats 1000000 in
/-- The same ints. -/
theorem intsEq_ok {w : World} {va vb : Value} {l : List Value} (ha : Sl w va l) (hb : Sl w vb l) (hv : ∀ v ∈ l, ∃ x : Int, v = .int .i64 x) (hn : l.length ≤ 1099511627776) :
    Calls Try.prog 18 #[va, vb] w fun e w' => e = .returned (.bool true) ∧ ∃ m, w' = w.drewN m := by
  obtain ⟨pa, ca, rfl⟩ := ha.opens
  obtain ⟨pb, cb, rfl⟩ := hb.opens
  have HA := Lib.hid ha
  have HB := Lib.hid hb
  have HV := Lib.hid hv
  obtain ⟨N, HN⟩ : ∃ N, Hid (l.length = N) := ⟨_, rfl⟩
  rw [HN.out] at hn ⊢
  have HNN := Lib.hid hn
  clear ha hb hv hn
  go_enter Try.func18, Try.ntmps18
  go_wp2_with fail
  go_loopg [5] N (fun left s5 wr => ∃ i m : Nat, i ≤ N ∧ left = N - i ∧ s5 = .int .i64 i ∧ wr = w.drewN m)
  case atStart => exact ⟨0, 0, Nat.zero_le _, rfl, rfl, rfl⟩
  case round =>
    obtain ⟨i, m, hi, rfl, rfl, rfl⟩ := hrel
    by_cases hi1 : i < N
    · have hil : i < l.length := by rw [HN.out]; exact hi1
      obtain ⟨x, hx⟩ := HV.out l[i] (by simp)
      obtain ⟨b1, o1, c1, e1, r1⟩ := HA.out.at (i := i) (x := .int .i64 x) (by rw [List.getElem?_eq_getElem hil, hx])
      obtain ⟨b2, o2, c2, e2, r2⟩ := HB.out.at (i := i) (x := .int .i64 x) (by rw [List.getElem?_eq_getElem hil, hx])
      obtain ⟨rfl, -, rfl⟩ : pa = some ⟨b1, o1, none⟩ ∧ _ ∧ ca = c1 := by injection e1 with x1 x2 x3; exact ⟨x1, x2, x3⟩
      obtain ⟨rfl, -, rfl⟩ : pb = some ⟨b2, o2, none⟩ ∧ _ ∧ cb = c2 := by injection e2 with x1 x2 x3; exact ⟨x1, x2, x3⟩
      clear e1 e2 hx hil
      have gd : decide ((i : Int) < N) = true := by simpa using hi1
      go_wp2_with fail
      go_quiet (fail)
      go_wp2_with fail
      go_roundg (N - (i + 1))
      case rel =>
        have := HNN.out
        exact ⟨i + 1, m + nq, by omega, rfl, next_i64 i (by omega), rfl⟩
      case measure => omega
    · have gd : decide ((i : Int) < N) = false := by simp; omega
      go_wp2_with fail
      go_ret
      exact ⟨rfl, _, rfl⟩

set_option maxRecDepth 100000 in
set_option maxHeartbeats 1000000 in
/-- The same texts. -/
theorem textsEq_ok {w : World} {va vb : Value} {l : List Value} (ha : Sl w va l) (hb : Sl w vb l) (hv : ∀ v ∈ l, ∃ x : ByteArray, v = .string x) (hn : l.length ≤ 1099511627776) :
    Calls Try.prog 43 #[va, vb] w fun e w' => e = .returned (.bool true) ∧ ∃ m, w' = w.drewN m := by
  obtain ⟨pa, ca, rfl⟩ := ha.opens
  obtain ⟨pb, cb, rfl⟩ := hb.opens
  have HA := Lib.hid ha
  have HB := Lib.hid hb
  have HV := Lib.hid hv
  obtain ⟨N, HN⟩ : ∃ N, Hid (l.length = N) := ⟨_, rfl⟩
  rw [HN.out] at hn ⊢
  have HNN := Lib.hid hn
  clear ha hb hv hn
  go_enter Try.func43, Try.ntmps43
  go_wp2_with fail
  go_loopg [5] N (fun left s5 wr => ∃ i m : Nat, i ≤ N ∧ left = N - i ∧ s5 = .int .i64 i ∧ wr = w.drewN m)
  case atStart => exact ⟨0, 0, Nat.zero_le _, rfl, rfl, rfl⟩
  case round =>
    obtain ⟨i, m, hi, rfl, rfl, rfl⟩ := hrel
    by_cases hi1 : i < N
    · have hil : i < l.length := by rw [HN.out]; exact hi1
      obtain ⟨x, hx⟩ := HV.out l[i] (by simp)
      obtain ⟨b1, o1, c1, e1, r1⟩ := HA.out.at (i := i) (x := .string x) (by rw [List.getElem?_eq_getElem hil, hx])
      obtain ⟨b2, o2, c2, e2, r2⟩ := HB.out.at (i := i) (x := .string x) (by rw [List.getElem?_eq_getElem hil, hx])
      obtain ⟨rfl, -, rfl⟩ : pa = some ⟨b1, o1, none⟩ ∧ _ ∧ ca = c1 := by injection e1 with x1 x2 x3; exact ⟨x1, x2, x3⟩
      obtain ⟨rfl, -, rfl⟩ : pb = some ⟨b2, o2, none⟩ ∧ _ ∧ cb = c2 := by injection e2 with x1 x2 x3; exact ⟨x1, x2, x3⟩
      clear e1 e2 hx hil
      have gd : decide ((i : Int) < N) = true := by simpa using hi1
      go_wp2_with fail
      go_quiet (fail)
      go_wp2_with fail
      go_roundg (N - (i + 1))
      case rel =>
        have := HNN.out
        exact ⟨i + 1, m + nq, by omega, rfl, next_i64 i (by omega), rfl⟩
      case measure => omega
    · have gd : decide ((i : Int) < N) = false := by simp; omega
      go_wp2_with fail
      go_ret
      exact ⟨rfl, _, rfl⟩

/-- string(k), k a list of bytes. -/
theorem conv_kval {w : World} {k : Option Kp} {L : List UInt8} (h : kok w 5 k) (hl : kl k = L.map u8v) : (convert 89 9 (kval k)).run Try.prog w = .ok (.string ⟨L.toArray⟩) w := by
  cases k with
  | none =>
    obtain rfl : L = [] := by cases L with
      | nil => rfl
      | cons a b => cases hl
    kernel_rfl
  | some k =>
    have hc := Kp.Lies.cells h
    rw [show k.l = L.map u8v from hl] at hc
    have hlen : k.l.length = L.length := by rw [show k.l = L.map u8v from hl]; simp
    exact run_conv_u8 Try.underlying89 Try.underlying5 Try.underlying9 hc _ _ hlen.symm
end Go.Proofs.Ytjdkdakepomhdaa
