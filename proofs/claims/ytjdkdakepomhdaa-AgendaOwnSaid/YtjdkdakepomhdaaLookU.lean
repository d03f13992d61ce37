/- What a Book reads back of its lists of bytes. -/
import Derived.Test.YtjdkdakepomhdaaProg
import Derived.Test.YtjdkdakepomhdaaBook1
import Derived.Deep.LoopGhost
import Derived.Deep.CutBlock
import Derived.Deep.DeepCutAuto
namespace Go.Proofs.Ytjdkdakepomhdaa
open Go.RowKit

def mkU (i : Nat) : Value := .int .u8 ((i : Int) % 125)
def m2U (i : Nat) : Value := .int .u8 (125 + (i : Int) % 125)

set_option maxRecDepth 100000 in
set_option maxHeartbeats 1000000 in
theorem lookU_ok {w : World} {g : Nat} {vb vo : Value} {bs os : List Value} (h0 : w.cell? ⟨g, 0, none⟩ = some vb) (hb : Sl w vb bs) (ho : Sl w vo os) (hlen : os.length = bs.length) (hN : bs.length ≤ 2147483648)
    (hm : ∀ (i : Nat) (v u : Value), bs[i]? = some v → os[i]? = some u → ∃ n m, n + m ≤ 1099511627776 ∧ Sl w v (List.replicate n (mkU i)) ∧ Sl w u (List.replicate n (mkU i) ++ List.replicate m (m2U i))) :
    Calls Try.prog 44 #[.pointer (some ⟨g, 0, none⟩), vo] w fun e w' => e = .returned (.bool true) ∧ w = w' := by
  obtain ⟨pb, cb, rfl⟩ := hb.opens
  obtain ⟨po, co, rfl⟩ := ho.opens
  obtain ⟨N, HN⟩ : ∃ N, Hid (bs.length = N) := ⟨_, rfl⟩
  rw [hlen, HN.out]
  rw [HN.out] at h0 hN
  have HLEN := Lib.hid hlen
  have HM := Lib.hid hm
  have HB := Lib.hid hb
  have HO := Lib.hid ho
  have HNN := Lib.hid hN
  clear hlen hm hb ho hN
  go_enter Try.func44, Try.ntmps44
  go_wp2_with fail
  go_loopg [5] N (fun left s5 wr => ∃ i : Nat, i ≤ N ∧ left = N - i ∧ s5 = .int .i64 i ∧ w = wr)
  case atStart => exact ⟨0, Nat.zero_le _, rfl, rfl, rfl⟩
  case round =>
    obtain ⟨i, hi, rfl, rfl, rfl⟩ := hrel
    by_cases hi1 : i < N
    · have hib : i < bs.length := by rw [HN.out]; exact hi1
      have hio : i < os.length := by rw [HLEN.out]; exact hib
      obtain ⟨n, m, hnm, hv, hu⟩ := HM.out i bs[i] os[i] (by simp [hib]) (by simp [hio])
      obtain ⟨b1, o1, c1, e1, r1⟩ := HB.out.at (i := i) (x := bs[i]) (by simp [hib])
      obtain ⟨b2, o2, c2, e2, r2⟩ := HO.out.at (i := i) (x := os[i]) (by simp [hio])
      obtain ⟨rfl, -, rfl⟩ : pb = some ⟨b1, o1, none⟩ ∧ _ ∧ cb = c1 := by injection e1 with x1 x2 x3; exact ⟨x1, x2, x3⟩
      obtain ⟨rfl, -, rfl⟩ : po = some ⟨b2, o2, none⟩ ∧ _ ∧ co = c2 := by injection e2 with x1 x2 x3; exact ⟨x1, x2, x3⟩
      clear e1 e2
      obtain ⟨p3, c3, e3⟩ := hv.opens
      obtain ⟨p4, c4, e4⟩ := hu.opens
      rw [List.length_replicate] at e3
      rw [List.length_append, List.length_replicate, List.length_replicate] at e4
      generalize bs[i] = v at *
      generalize os[i] = u at *
      subst e3 e4
      have HV := Lib.hid hv
      have HU := Lib.hid hu
      have HNM := Lib.hid hnm
      clear hv hu hnm hib hio
      have gd : decide ((i : Int) < N) = true := by simpa using hi1
      go_wp2_with fail
      go_loopg [7] (n + m) (fun left s7 wr => ∃ k : Nat, k ≤ n + m ∧ left = n + m - k ∧ s7 = .int .i64 k ∧ w = wr)
      case atStart => exact ⟨0, Nat.zero_le _, rfl, rfl, rfl⟩
      case round =>
        obtain ⟨k, hk, rfl, rfl, rfl⟩ := hrel
        by_cases hk1 : k < n
        · obtain ⟨b5, o5, c5, e5, r5⟩ := HV.out.at (i := k) (x := mkU i) (by simp [hk1])
          obtain ⟨b6, o6, c6, e6, r6⟩ := HU.out.at (i := k) (x := mkU i) (by rw [List.getElem?_append_left (by simpa using hk1)]; simp [hk1])
          obtain rfl : p3 = some ⟨b5, o5, none⟩ := by injection e5
          obtain rfl : p4 = some ⟨b6, o6, none⟩ := by injection e6
          clear e5 e6
          unfold mkU at r5 r6
          have gk1 : decide ((k : Int) < (n : Int)) = true := by simpa using hk1
          have gk2 : decide ((k : Int) < ((n + m : Nat) : Int)) = true := by simp; omega
          go_wp2_with fail
          go_roundg (n + m - (k + 1))
          case rel =>
            have := HNM.out
            exact ⟨k + 1, by omega, rfl, next_i64 k (by omega), rfl⟩
          case measure => omega
        · by_cases hk2 : k < n + m
          · obtain ⟨b6, o6, c6, e6, r6⟩ := HU.out.at (i := k) (x := m2U i) (by rw [List.getElem?_append_right (by simp; omega), List.length_replicate, List.getElem?_replicate, if_pos (by omega)])
            obtain rfl : p4 = some ⟨b6, o6, none⟩ := by injection e6
            clear e6
            unfold m2U at r6
            have gk1 : decide ((k : Int) < (n : Int)) = false := by simpa using hk1
            have gk2 : decide ((k : Int) < (n : Int) + (m : Int)) = true := by simp; omega
            go_wp2_with fail
            go_roundg (n + m - (k + 1))
            case rel =>
              have := HNM.out
              exact ⟨k + 1, by omega, rfl, next_i64 k (by omega), rfl⟩
            case measure => omega
          · have gk2 : decide ((k : Int) < (n : Int) + (m : Int)) = false := by simp; omega
            go_wp2_with fail
            go_roundg (N - (i + 1))
            case rel =>
              have := HNN.out
              exact ⟨i + 1, by omega, rfl, next_i64 i (by omega), rfl⟩
            case measure => omega
    · have gd : decide ((i : Int) < N) = false := by simp; omega
      go_wp2_with fail
      go_ret
      exact ⟨rfl, rfl⟩
end Go.Proofs.Ytjdkdakepomhdaa
