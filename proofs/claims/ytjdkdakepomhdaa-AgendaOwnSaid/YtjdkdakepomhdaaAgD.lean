/- container/heap over an agenda's row: down. -/
import Derived.Test.YtjdkdakepomhdaaAgC
namespace Go.Proofs.Ytjdkdakepomhdaa
open Go.RowKit

theorem Sift.less {w wr : World} {g m : Nat} {T : Int} {k k1 : Option Kp} {L L1 : List Ent} {n : Nat} (h : Sift w g m T k L n wr k1 L1) {p : Option Addr} {l c : Nat} (hkv : kval k = .slice p l c) {i j : Nat} {a b : Ent} (hi : L1[i]? = some a) (hj : L1[j]? = some b) {d : Bool} (hd : decide (a.lt b) = d) (x y : Int) (hx : x = i) (hy : y = j) :
    Calls Try.prog 86 #[.slice p l c, .int .i64 x, .int .i64 y] wr fun e w' => e = .returned (.bool d) ∧ Fr [] wr w' := by
  subst hx hy
  have := rless_any h.row i j a b hi hj
  rw [h.skv, hkv, hd] at this
  exact this
theorem Sift.swaps {w wr : World} {g m : Nat} {T : Int} {k k1 : Option Kp} {L L1 : List Ent} {n : Nat} (h : Sift w g m T k L n wr k1 L1) {p : Option Addr} {l c : Nat} (hkv : kval k = .slice p l c) {i j : Nat} {a b : Ent} (hi : L1[i]? = some a) (hj : L1[j]? = some b) (hne : i ≠ j) (hin : i < n) (hjn : j < n) (x y : Int) (hx : x = i) (hy : y = j) :
    Calls Try.prog 87 #[.slice p l c, .int .i64 x, .int .i64 y] wr fun e w' => e = .returned (.tuple #[]) ∧ ∃ k2, Sift w g m T k L n w' k2 ((L1.set i b).set j a) := by
  subst hx hy
  have := rswap_any h.row i j a b hi hj hne
  rw [h.skv, hkv] at this
  refine this.mono ?_
  rintro e w' ⟨rfl, k2, h1, h2, h3, h4⟩
  exact ⟨rfl, k2, h.swap hi hj hin hjn (h1.trans (hkv.symm.trans h.skv.symm)) h2 h3 h4⟩

/-- What 'down' leaves. -/
def Downed (w : World) (g m : Nat) (T : Int) (k : Option Kp) (L : List Ent) (n i0 : Nat) (b : Bool) (w' : World) : Prop :=
  ∃ k' L', Sift w g m T k L n w' k' L' ∧ (b = true → HeapF n (vw L')) ∧ (b = false → UpF n (vw L') i0)
theorem down_end {w w' : World} {g m : Nat} {T : Int} {k k1 : Option Kp} {L L1 : List Ent} {n i0 i : Nat} (h : Hid (Sift w g m T k L n w' k1 L1)) (hd : DownF n (vw L1) i0 i) (hc : ∀ t, 0 < t → t < n → (t - 1) / 2 = i → fle (vw L1) i t) (hi : i0 ≤ i) :
    Ending.returned (.bool (decide (i0 < i))) = .returned (.bool (decide (i0 < i))) ∧ Downed w g m T k L n i0 (decide (i0 < i)) w' := by
  obtain ⟨h1, h2⟩ := down_stop hd hc
  refine ⟨rfl, k1, L1, h.out, fun hb => h2 ?_, fun hb => ?_⟩
  · have := of_decide_eq_true hb; omega
  · have := of_decide_eq_false hb
    obtain rfl : i0 = i := by omega
    exact h1

set_option maxRecDepth 100000 in
set_option maxHeartbeats 4000000 in
theorem down_any {w : World} {g m : Nat} {T : Int} {k : Option Kp} {L : List Ent} (h : AgRow w g m T k L) (n i0 : Nat) (hn : n ≤ L.length) (hi0 : i0 < n) (hu : FixF n (vw L) i0) :
    Calls Try.prog 41 #[.iface 76 (.pointer (some ⟨g, 0, none⟩)), .int .i64 i0, .int .i64 n] w fun e w' => ∃ b, e = .returned (.bool b) ∧ Downed w g m T k L n i0 b w' := by
  have hlen := h.len
  have HS := Lib.hid (Sift.refl n h)
  have HU := Lib.hid hu
  obtain ⟨kp, kn, kc, hkv⟩ := kval_open k
  have HKV := Lib.hid hkv
  clear h hu hkv
  suffices H : Calls Try.prog 41 #[.iface 76 (.pointer (some ⟨g, 0, none⟩)), .int .i64 i0, .int .i64 n] w fun e w' => ∃ i : Nat, e = .returned (.bool (decide (i0 < i))) ∧ Downed w g m T k L n i0 (decide (i0 < i)) w' from
    H.mono fun e w' ⟨i, h1, h2⟩ => ⟨_, h1, h2⟩
  go_enter Try.func41, Try.ntmps41
  go_wp2_with fail
  go_loopg [7] (n - i0) (fun left s7 wr => ∃ (i : Nat) (k' : Option Kp) (L' : List Ent), n - i = left ∧ s7 = .int .i64 i ∧ i < n ∧ i0 ≤ i ∧ Hid (Sift w g m T k L n wr k' L') ∧ Hid (DownF n (vw L') i0 i))
  case atStart => exact ⟨i0, k, L, rfl, rfl, hi0, Nat.le_refl _, HS, Lib.hid ⟨HU.out, fun h => absurd rfl h⟩⟩
  case round =>
    obtain ⟨i, k1, L1, rfl, rfl, hi, hii, HS1, HD1⟩ := hrel
    have hn1 : L1.length = L.length := HS1.out.len
    have hai : L1[i]? = some (L1[i]'(by omega)) := List.getElem?_eq_getElem _
    generalize L1[i]'(by omega) = ai at hai
    have HI := Lib.hid hai
    have hc0 := HS1.out.row.cell0
    rw [HS1.out.skv, HKV.out] at hc0
    have hm := Try.rLess hc0
    clear hai hc0
    by_cases h1 : 2 * i + 1 < n
    · have g1 : decide ((n : Int) ≤ 2 * i + 1) = false := by simp; omega
      by_cases h2 : 2 * i + 1 + 1 < n
      · have g2 : decide ((2 * i + 1 + 1 : Int) < n) = true := by simp; omega
        have ha1 : L1[2 * i + 1]? = some (L1[2 * i + 1]'(by omega)) := List.getElem?_eq_getElem _
        have ha2 : L1[2 * i + 1 + 1]? = some (L1[2 * i + 1 + 1]'(by omega)) := List.getElem?_eq_getElem _
        generalize L1[2 * i + 1]'(by omega) = a1 at ha1
        generalize L1[2 * i + 1 + 1]'(by omega) = a2 at ha2
        have H1 := Lib.hid ha1
        have H2 := Lib.hid ha2
        clear ha1 ha2
        by_cases h3 : a2.lt a1
        · have HL := Lib.hid (HS1.out.less HKV.out H2.out H1.out (show decide (a2.lt a1) = true by simpa using h3))
          have hch : ∀ t, 0 < t → t < n → (t - 1) / 2 = i → fle (vw L1) (2 * i + 1 + 1) t := fun t t0 tn hp => by
            unfold fle
            by_cases e : t = 2 * i + 1
            · subst e; rw [vw_some H2.out, vw_some H1.out]; exact lt_asymm h3
            · obtain rfl : t = 2 * i + 1 + 1 := by omega
              exact lt_irr _
          clear h3
          have hac : L1[2 * i + 1 + 1]? = some (L1[2 * i + 1 + 1]'(by omega)) := List.getElem?_eq_getElem _
          generalize L1[2 * i + 1 + 1]'(by omega) = ac at hac
          have HC := Lib.hid hac
          have HCH := Lib.hid hch
          clear hac hch
          by_cases hab : ac.lt ai
          · have hd : decide (ac.lt ai) = true := by simpa using hab
            go_wp2_with (first | (go_at_call 86; refine (HL.out _ _ (by omega) (by omega)).mono ?_; rintro e w1 ⟨rfl, hf1⟩; have HSb := Lib.hid (HS1.out.new hf1); have hc1 := HSb.out.row.cell0; rw [HSb.out.skv, HKV.out] at hc1; have hm1 := Try.rLess hc1; clear hc1) | (go_at_call 86; refine ((HSb.out.less HKV.out HC.out HI.out hd) _ _ (by omega) (by omega)).mono ?_; rintro e w2 ⟨rfl, hf2⟩; have HS2 := Lib.hid (HSb.out.new hf2); have hc2 := HS2.out.row.cell0; rw [HS2.out.skv, HKV.out] at hc2; have hm2 := Try.rSwap hc2; clear hc2) | (go_at_call 87; refine ((HS2.out.swaps HKV.out HI.out HC.out (by omega) (by omega) (by omega)) _ _ (by omega) (by omega)).mono ?_; rintro e w3 ⟨rfl, k2, hs3⟩; have HS3 := Lib.hid hs3))
            go_roundg (n - (2 * i + 1 + 1))
            case rel =>
              refine ⟨2 * i + 1 + 1, k2, _, rfl, ?_, by omega, by omega, HS3, ?_⟩
              · first | rfl | (congr 1; omega)
              · apply Lib.hid
                rw [vw_swap HI.out HC.out]
                exact down_step HD1.out (by omega) (by omega) (by omega) HCH.out (by rw [vw_some HC.out, vw_some HI.out]; exact hab) (by omega)
            case measure => omega
          · have hd : decide (ac.lt ai) = false := by simpa using hab
            go_wp2_with (first | (go_at_call 86; refine (HL.out _ _ (by omega) (by omega)).mono ?_; rintro e w1 ⟨rfl, hf1⟩; have HSb := Lib.hid (HS1.out.new hf1); have hc1 := HSb.out.row.cell0; rw [HSb.out.skv, HKV.out] at hc1; have hm1 := Try.rLess hc1; clear hc1) | (go_at_call 86; refine ((HSb.out.less HKV.out HC.out HI.out hd) _ _ (by omega) (by omega)).mono ?_; rintro e w2 ⟨rfl, hf2⟩; have HS2 := Lib.hid (HSb.out.new hf2); have HS3 := HS2))
            go_ret
            exact ⟨i, down_end HS3 HD1.out (fun t t0 tn hp => fle_trans (by unfold fle; rw [vw_some HC.out, vw_some HI.out]; exact hab) (HCH.out t t0 tn hp)) (by omega)⟩
        · have HL := Lib.hid (HS1.out.less HKV.out H2.out H1.out (show decide (a2.lt a1) = false by simpa using h3))
          have hch : ∀ t, 0 < t → t < n → (t - 1) / 2 = i → fle (vw L1) (2 * i + 1) t := fun t t0 tn hp => by
            unfold fle
            by_cases e : t = 2 * i + 1
            · subst e; exact lt_irr _
            · obtain rfl : t = 2 * i + 1 + 1 := by omega
              rw [vw_some H2.out, vw_some H1.out]; exact h3
          clear h3
          have hac : L1[2 * i + 1]? = some (L1[2 * i + 1]'(by omega)) := List.getElem?_eq_getElem _
          generalize L1[2 * i + 1]'(by omega) = ac at hac
          have HC := Lib.hid hac
          have HCH := Lib.hid hch
          clear hac hch
          by_cases hab : ac.lt ai
          · have hd : decide (ac.lt ai) = true := by simpa using hab
            go_wp2_with (first | (go_at_call 86; refine (HL.out _ _ (by omega) (by omega)).mono ?_; rintro e w1 ⟨rfl, hf1⟩; have HSb := Lib.hid (HS1.out.new hf1); have hc1 := HSb.out.row.cell0; rw [HSb.out.skv, HKV.out] at hc1; have hm1 := Try.rLess hc1; clear hc1) | (go_at_call 86; refine ((HSb.out.less HKV.out HC.out HI.out hd) _ _ (by omega) (by omega)).mono ?_; rintro e w2 ⟨rfl, hf2⟩; have HS2 := Lib.hid (HSb.out.new hf2); have hc2 := HS2.out.row.cell0; rw [HS2.out.skv, HKV.out] at hc2; have hm2 := Try.rSwap hc2; clear hc2) | (go_at_call 87; refine ((HS2.out.swaps HKV.out HI.out HC.out (by omega) (by omega) (by omega)) _ _ (by omega) (by omega)).mono ?_; rintro e w3 ⟨rfl, k2, hs3⟩; have HS3 := Lib.hid hs3))
            go_roundg (n - (2 * i + 1))
            case rel =>
              refine ⟨2 * i + 1, k2, _, rfl, ?_, by omega, by omega, HS3, ?_⟩
              · first | rfl | (congr 1; omega)
              · apply Lib.hid
                rw [vw_swap HI.out HC.out]
                exact down_step HD1.out (by omega) (by omega) (by omega) HCH.out (by rw [vw_some HC.out, vw_some HI.out]; exact hab) (by omega)
            case measure => omega
          · have hd : decide (ac.lt ai) = false := by simpa using hab
            go_wp2_with (first | (go_at_call 86; refine (HL.out _ _ (by omega) (by omega)).mono ?_; rintro e w1 ⟨rfl, hf1⟩; have HSb := Lib.hid (HS1.out.new hf1); have hc1 := HSb.out.row.cell0; rw [HSb.out.skv, HKV.out] at hc1; have hm1 := Try.rLess hc1; clear hc1) | (go_at_call 86; refine ((HSb.out.less HKV.out HC.out HI.out hd) _ _ (by omega) (by omega)).mono ?_; rintro e w2 ⟨rfl, hf2⟩; have HS2 := Lib.hid (HSb.out.new hf2); have HS3 := HS2))
            go_ret
            exact ⟨i, down_end HS3 HD1.out (fun t t0 tn hp => fle_trans (by unfold fle; rw [vw_some HC.out, vw_some HI.out]; exact hab) (HCH.out t t0 tn hp)) (by omega)⟩
      · have g2 : decide ((2 * i + 1 + 1 : Int) < n) = false := by simp; omega
        have hch : ∀ t, 0 < t → t < n → (t - 1) / 2 = i → fle (vw L1) (2 * i + 1) t := fun t t0 tn hp => by
          obtain rfl : t = 2 * i + 1 := by omega
          exact lt_irr _
        have hac : L1[2 * i + 1]? = some (L1[2 * i + 1]'(by omega)) := List.getElem?_eq_getElem _
        generalize L1[2 * i + 1]'(by omega) = ac at hac
        have HC := Lib.hid hac
        have HCH := Lib.hid hch
        clear hac hch
        by_cases hab : ac.lt ai
        · have hd : decide (ac.lt ai) = true := by simpa using hab
          go_wp2_with (first | (go_at_call 86; refine ((HS1.out.less HKV.out HC.out HI.out hd) _ _ (by omega) (by omega)).mono ?_; rintro e w2 ⟨rfl, hf2⟩; have HS2 := Lib.hid (HS1.out.new hf2); have hc2 := HS2.out.row.cell0; rw [HS2.out.skv, HKV.out] at hc2; have hm2 := Try.rSwap hc2; clear hc2) | (go_at_call 87; refine ((HS2.out.swaps HKV.out HI.out HC.out (by omega) (by omega) (by omega)) _ _ (by omega) (by omega)).mono ?_; rintro e w3 ⟨rfl, k2, hs3⟩; have HS3 := Lib.hid hs3))
          go_roundg (n - (2 * i + 1))
          case rel =>
            refine ⟨2 * i + 1, k2, _, rfl, ?_, by omega, by omega, HS3, ?_⟩
            · first | rfl | (congr 1; omega)
            · apply Lib.hid
              rw [vw_swap HI.out HC.out]
              exact down_step HD1.out (by omega) (by omega) (by omega) HCH.out (by rw [vw_some HC.out, vw_some HI.out]; exact hab) (by omega)
          case measure => omega
        · have hd : decide (ac.lt ai) = false := by simpa using hab
          go_wp2_with (first | (go_at_call 86; refine ((HS1.out.less HKV.out HC.out HI.out hd) _ _ (by omega) (by omega)).mono ?_; rintro e w2 ⟨rfl, hf2⟩; have HS2 := Lib.hid (HS1.out.new hf2); have HS3 := HS2))
          go_ret
          exact ⟨i, down_end HS3 HD1.out (fun t t0 tn hp => fle_trans (by unfold fle; rw [vw_some HC.out, vw_some HI.out]; exact hab) (HCH.out t t0 tn hp)) (by omega)⟩
    · have g1 : decide ((n : Int) ≤ 2 * i + 1) = true := by simp; omega
      go_wp2_with fail
      go_ret
      exact ⟨i, down_end HS1 HD1.out (fun t t0 tn hp => by omega) hii⟩
end Go.Proofs.Ytjdkdakepomhdaa
