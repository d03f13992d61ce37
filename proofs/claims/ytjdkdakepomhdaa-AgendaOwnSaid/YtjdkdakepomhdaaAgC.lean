/- container/heap over an agenda's row: up, down. -/
import Derived.Test.YtjdkdakepomhdaaAgB3
import Derived.Test.YtjdkdakepomhdaaHeap
namespace Go.Proofs.Ytjdkdakepomhdaa
open Go.RowKit

/-- What sifting leaves of a row. -/
structure Sift (w : World) (g m : Nat) (T : Int) (k : Option Kp) (L : List Ent) (n : Nat) (w' : World) (k' : Option Kp) (L' : List Ent) : Prop where
  row : AgRow w' g m T k' L'
  skv : kval k' = kval k
  skg : kg k' = kg k
  perm : L'.Perm L
  out : ∀ t, n ≤ t → L'[t]? = L[t]?
  fr : Fr (rowB k L) w w'

theorem Sift.refl {w : World} {g m : Nat} {T : Int} {k : Option Kp} {L : List Ent} (n : Nat) (h : AgRow w g m T k L) : Sift w g m T k L n w k L := ⟨h, rfl, rfl, List.Perm.refl _, fun _ _ => rfl, Fr.refl _ _⟩
theorem rowB_perm {k k' : Option Kp} {L L' : List Ent} (hk : kg k' = kg k) (hp : L'.Perm L) : ∀ x, x ∈ rowB k' L' ↔ x ∈ rowB k L := fun x => by
  unfold rowB; rw [List.mem_append, List.mem_append, hk, (hp.map Ent.blk).mem_iff]
theorem Sift.trans {w w1 w2 : World} {g m : Nat} {T : Int} {k k1 k2 : Option Kp} {L L1 L2 : List Ent} {n : Nat} (h : Sift w g m T k L n w1 k1 L1) (h2 : Sift w1 g m T k1 L1 n w2 k2 L2) : Sift w g m T k L n w2 k2 L2 :=
  ⟨h2.row, h2.skv.trans h.skv, h2.skg.trans h.skg, h2.perm.trans h.perm, fun t ht => (h2.out t ht).trans (h.out t ht), h.fr.trans h2.fr (fun x hx => Or.inl ((rowB_perm h.skg h.perm x).1 hx))⟩
/-- New blocks alone. -/
theorem Sift.new {w w1 w2 : World} {g m : Nat} {T : Int} {k k1 : Option Kp} {L L1 : List Ent} {n : Nat} (h : Sift w g m T k L n w1 k1 L1) (hf : Fr [] w1 w2) : Sift w g m T k L n w2 k1 L1 :=
  ⟨h.row.fr hf (fun _ _ => List.not_mem_nil), h.skv, h.skg, h.perm, h.out, h.fr.trans hf (fun x hx => by cases hx)⟩
theorem Sift.len {w w1 : World} {g m : Nat} {T : Int} {k k1 : Option Kp} {L L1 : List Ent} {n : Nat} (h : Sift w g m T k L n w1 k1 L1) : L1.length = L.length := h.perm.length_eq

theorem Try.rLess0 (w : World) (g : Nat) : (method 237 76 (.pointer (some ⟨g, 0, none⟩)) "Less").run Try.prog w = (loadVar 68 ⟨g, 0, none⟩ >>= fun v => (pure (86, v) : Sem (FuncId × Value))).run Try.prog w := by kernel_rfl
theorem Try.rLess {w : World} {g : Nat} {p : Option Addr} {n c : Nat} (h : w.cell? ⟨g, 0, none⟩ = some (.slice p n c)) : (method 237 76 (.pointer (some ⟨g, 0, none⟩)) "Less").run Try.prog w = .ok (86, .slice p n c) w := by
  rw [Try.rLess0]; simp [h, go_sem]
theorem Try.rLen0 (w : World) (g : Nat) : (method 237 76 (.pointer (some ⟨g, 0, none⟩)) "Len").run Try.prog w = (loadVar 68 ⟨g, 0, none⟩ >>= fun v => (pure (85, v) : Sem (FuncId × Value))).run Try.prog w := by kernel_rfl
theorem Try.rLen {w : World} {g : Nat} {p : Option Addr} {n c : Nat} (h : w.cell? ⟨g, 0, none⟩ = some (.slice p n c)) : (method 237 76 (.pointer (some ⟨g, 0, none⟩)) "Len").run Try.prog w = .ok (85, .slice p n c) w := by
  rw [Try.rLen0]; simp [h, go_sem]
theorem Try.rSwap0 (w : World) (g : Nat) : (method 237 76 (.pointer (some ⟨g, 0, none⟩)) "Swap").run Try.prog w = (loadVar 68 ⟨g, 0, none⟩ >>= fun v => (pure (87, v) : Sem (FuncId × Value))).run Try.prog w := by kernel_rfl
theorem Try.rSwap {w : World} {g : Nat} {p : Option Addr} {n c : Nat} (h : w.cell? ⟨g, 0, none⟩ = some (.slice p n c)) : (method 237 76 (.pointer (some ⟨g, 0, none⟩)) "Swap").run Try.prog w = .ok (87, .slice p n c) w := by
  rw [Try.rSwap0]; simp [h, go_sem]
theorem Try.rPop (w : World) (g : Nat) : (method 237 76 (.pointer (some ⟨g, 0, none⟩)) "Pop").run Try.prog w = .ok (88, .pointer (some ⟨g, 0, none⟩)) w := by kernel_rfl
theorem Try.rPush (w : World) (g : Nat) : (method 237 76 (.pointer (some ⟨g, 0, none⟩)) "Push").run Try.prog w = .ok (89, .pointer (some ⟨g, 0, none⟩)) w := by kernel_rfl

theorem kval_open (k : Option Kp) : ∃ p n c, kval k = .slice p n c := ⟨_, _, _, kval_eq k⟩
/-- Two of a row exchanged. -/
theorem Sift.swap {w wr w' : World} {g m : Nat} {T : Int} {k k1 k' : Option Kp} {L L1 : List Ent} {n i j : Nat} {a b : Ent} (h : Sift w g m T k L n wr k1 L1) (hi : L1[i]? = some a) (hj : L1[j]? = some b) (hin : i < n) (hjn : j < n)
    (h1 : kval k' = kval k1) (h2 : kg k' = kg k1) (h3 : AgRow w' g m T k' ((L1.set i b).set j a)) (h4 : Fr (rowB k1 L1) wr w') : Sift w g m T k L n w' k' ((L1.set i b).set j a) :=
  h.trans ⟨h3, h1, h2, swap_perm hi hj, fun t ht => swap_out t (by omega) (by omega), h4⟩

set_option maxRecDepth 100000 in
set_option maxHeartbeats 2000000 in
theorem up_any {w : World} {g m : Nat} {T : Int} {k : Option Kp} {L : List Ent} (h : AgRow w g m T k L) (n j : Nat) (hn : n ≤ L.length) (hj : j < n) (hu : UpF n (vw L) j) :
    Calls Try.prog 42 #[.iface 76 (.pointer (some ⟨g, 0, none⟩)), .int .i64 j] w fun e w' => e = .returned (.tuple #[]) ∧ ∃ k' L', Sift w g m T k L n w' k' L' ∧ HeapF n (vw L') := by
  have hlen := h.len
  have HS := Lib.hid (Sift.refl n h)
  have HU := Lib.hid hu
  obtain ⟨kp, kn, kc, hkv⟩ := kval_open k
  have HKV := Lib.hid hkv
  clear h hu hkv
  go_enter Try.func42, Try.ntmps42
  go_wp2_with fail
  go_loopg [1] j (fun left s1 wr => ∃ (i : Nat) (k' : Option Kp) (L' : List Ent), i = left ∧ s1 = .int .i64 i ∧ i < n ∧ Hid (Sift w g m T k L n wr k' L') ∧ Hid (UpF n (vw L') i))
  case atStart => exact ⟨j, k, L, rfl, rfl, hj, HS, HU⟩
  case round =>
    obtain ⟨i, k1, L1, rfl, rfl, hi, HS1, HU1⟩ := hrel
    by_cases h0 : i = 0
    · subst h0
      go_wp2_with fail
      go_end0
      exact ⟨rfl, k1, L1, HS1.out, up_done HU1.out (fun h => absurd h (by omega))⟩
    · obtain ⟨p, hp⟩ : ∃ p : Nat, ((i : Int) - 1) / 2 = p := ⟨(i - 1) / 2, by omega⟩
      have hpn : p = (i - 1) / 2 := by omega
      have hp' : ((i - 1 : Nat) : Int) / 2 = p := by omega
      have hn1 : L1.length = L.length := HS1.out.len
      have hai : L1[i]? = some (L1[i]'(by omega)) := List.getElem?_eq_getElem _
      have hbp : L1[p]? = some (L1[p]'(by omega)) := List.getElem?_eq_getElem _
      generalize L1[i]'(by omega) = a at hai
      generalize L1[p]'(by omega) = b at hbp
      have HP := Lib.hid hp'
      have HP2 := Lib.hid hp
      clear hp hp'
      have hless := rless_any HS1.out.row i p a b hai hbp
      have hc0 := HS1.out.row.cell0
      rw [HS1.out.skv, HKV.out] at hless hc0
      have hm := Try.rLess hc0
      have HL := Lib.hid hless
      have HA := Lib.hid hai
      have HB := Lib.hid hbp
      clear hless hai hbp hc0 hn1
      by_cases hab : a.lt b
      · have hd : decide (a.lt b) = true := by simpa using hab
        rw [hd] at HL
        go_wp2_with (first | (go_at_call 86; (first | rw [HP2.out] | rw [HP.out]); refine HL.out.mono ?_; rintro e w1 ⟨rfl, hf1⟩; have hs1 := HS1.out.new hf1; have hc1 := hs1.row.cell0; rw [hs1.skv, HKV.out] at hc1; have hm1 := Try.rSwap hc1; have hsw := rswap_any hs1.row p i b a HB.out HA.out (by omega); rw [hs1.skv, HKV.out] at hsw; have HSW := Lib.hid hsw; have HS2 := Lib.hid hs1; clear hsw hs1 hc1) | (go_at_call 87; (first | rw [HP2.out] | rw [HP.out]); refine HSW.out.mono ?_; rintro e w2 ⟨rfl, k2, hk2, hg2, hr2, hf2⟩; have HS3 := Lib.hid (HS2.out.swap HB.out HA.out (by omega) (by omega) (hk2.trans (HKV.out.symm.trans HS2.out.skv.symm)) hg2 hr2 hf2)))
        go_roundg p
        case rel =>
          refine ⟨p, k2, _, rfl, ?_, by omega, HS3, ?_⟩
          · first | rw [HP2.out] | rw [HP.out]
          · apply Lib.hid
            rw [vw_swap HB.out HA.out, hpn]
            exact up_step HU1.out (by omega) hi (by rw [← hpn, vw_some HA.out, vw_some HB.out]; exact hab)
        case measure => omega
      · have hd : decide (a.lt b) = false := by simpa using hab
        rw [hd] at HL
        go_wp2_with (go_at_call 86; (first | rw [HP2.out] | rw [HP.out]); refine HL.out.mono ?_; rintro e w1 ⟨rfl, hf1⟩)
        go_end0
        exact ⟨rfl, k1, L1, HS1.out.new hf1, up_done HU1.out (fun h => by
          unfold fle; rw [← hpn, vw_some HA.out, vw_some HB.out]; exact hab)⟩
end Go.Proofs.Ytjdkdakepomhdaa
