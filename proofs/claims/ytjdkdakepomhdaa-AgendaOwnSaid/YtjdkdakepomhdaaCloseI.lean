/- What a Book does to its lists of ints at the end. -/
import Derived.Test.YtjdkdakepomhdaaLookI
import Derived.Test.YtjdkdakepomhdaaBook2
import Derived.Test.YtjdkdakepomhdaaHeldG
namespace Go.Proofs.Ytjdkdakepomhdaa
open Go.RowKit

theorem Try.infoBI : (Try.prog.info? 3).map (fun i => (i.zero, i.size, i.bytes)) = some (some (.int .i64 0), 1, 8) := by kernel_rfl
theorem Try.infoBSlI : (Try.prog.info? 40).map (fun i => (i.zero, i.size, i.bytes)) = some (some (.slice none 0 0), 1, 24) := by kernel_rfl

/-- What is grown is read back. -/
theorem closeI_look {w0 w : World} {g : Nat} {cs : List Value} {ks ks' : List (Option Kp)} {r0 ro rm : Option Kp} {os ms : List Value} {pb : Option Addr} {N cb : Nat}
    (hst : CloseSt w0 w g 4 3 40 55 cs ks ks' m2I ro rm os ms) (hc0 : cs[4]? = some (.slice pb N cb)) (hvb : kval r0 = .slice pb N cb) (hr0 : kok w0 40 r0) (hl0 : kl r0 = ks.map kval)
    (hK : ∀ (j : Nat) (k' : Option Kp), ks'[j]? = some k' → ∃ k, ks[j]? = some k ∧ kad k' = kad k ∧ kval k' = kval k ∧ kl k' = List.replicate (kl k).length (mkI j))
    (hg : w0.heap[g]? = some (.cells cs.toArray 55 (0, 0))) (hTG : 40 ≠ 55) (hfb : ∀ x ∈ ks.flatMap kg, Blk w0 3 x) (hET : 3 ≠ 40)
    (hlen : ∀ (j : Nat) (k : Option Kp), ks[j]? = some k → (kl k).length ≤ 1073741824) (hN : ks.length ≤ 2147483648)
    {vo : Value} {vs : List Value} {cnt : Nat} (hvo : Sl w vo vs) (hm : Marks w 3 w0.heap.size ks' m2I cnt vs) (hvs : vs.length = ks.length) (hcnt : cnt ≤ 1000) :
    Calls Try.prog 45 #[.pointer (some ⟨g, 0, none⟩), vo] w fun e w' => e = .returned (.bool true) ∧ w = w' := by
  have hr : kok w 40 r0 := hr0.fr hst.fr (fun x hx hm => by
    have hbb := hr0.blk x hx
    rcases List.mem_cons.1 hm with hm | hm
    · exact hbb.ne ⟨_, hg⟩ hTG hm
    · exact far hfb hET.symm hbb hm)
  have hsl := hr.sl
  rw [hvb, hl0] at hsl
  refine lookI_ok (hst.at0 hc0 (by decide) (by decide)) hsl hvo (by rw [hvs, List.length_map]) (by rw [List.length_map]; exact hN) (fun i v u hv hu => ?_)
  obtain ⟨k', h1, h2⟩ := hm i u hu
  obtain ⟨k, h3, _, h4, h5⟩ := hK i k' h1
  obtain ⟨k0, h6, h7⟩ := hst.cur i k' h1
  rw [List.getElem?_map, h3] at hv
  obtain rfl : kval k = v := Option.some.inj hv
  refine ⟨(kl k).length, cnt, by have := hlen i k h3; omega, ?_, ?_⟩
  · rw [← h4, h6.val, ← h5, h6.2.1]; exact h7.sl
  · rw [← h5]; exact h2.sl

set_option maxRecDepth 100000 in
set_option maxHeartbeats 2000000 in
theorem closeI_ok {w : World} {g : Nat} {cs : List Value} {ks : List (Option Kp)} {r0 : Option Kp}
    (hg : w.heap[g]? = some (.cells cs.toArray 55 (0, 0))) (hc0 : cs[4]? = some (kval r0)) (hc2 : cs[6]? = some (.slice none 0 0)) (hc3 : cs[7]? = some (.slice none 0 0))
    (hr0 : kok w 40 r0) (hl0 : kl r0 = ks.map kval) (hks : ∀ (j : Nat) (k : Option Kp), ks[j]? = some k → kok w 3 k) (hap : Apart ks) (hN : ks.length ≤ 2147483648) (hlen : ∀ (j : Nat) (k : Option Kp), ks[j]? = some k → (kl k).length ≤ 1073741824) :
    Calls Try.prog 33 #[.pointer (some ⟨g, 0, none⟩)] w fun e w' => e = .returned (.bool true) ∧
      (∃ v2 v3, w'.heap[g]? = some (.cells ((cs.set 6 v2).set 7 v3).toArray 55 (0, 0))) ∧ Fr (g :: ks.flatMap kg) w w' := by
  have hsl := hr0.sl
  rw [hl0] at hsl
  obtain ⟨pb, cb, hvb⟩ := hsl.opens
  obtain ⟨N, HN⟩ : ∃ N, Hid (ks.length = N) := ⟨_, rfl⟩
  rw [List.length_map, HN.out] at hvb
  rw [HN.out] at hN
  rw [hvb] at hsl hc0
  have hET : 3 ≠ 40 := by decide
  have hEG : 3 ≠ 55 := by decide
  have hTG : 40 ≠ 55 := by decide
  have hfb := flat_blk hks
  have hgS : g ∉ ks.flatMap kg := far hfb hEG.symm ⟨_, hg⟩
  have HNN := Lib.hid hN
  have HKS := Lib.hid hks
  have HAP := Lib.hid hap
  have HLEN := Lib.hid hlen
  have HSL := Lib.hid hsl
  have HC0 := Lib.hid hc0
  have HC2 := Lib.hid hc2
  have HC3 := Lib.hid hc3
  have HR0 := Lib.hid hr0
  have HVB := Lib.hid hvb
  have HG := Lib.hid hg
  have HFB := Lib.hid hfb
  have HL0 := Lib.hid hl0
  have HET := Lib.hid hET
  have HEG := Lib.hid hEG
  have HTG := Lib.hid hTG
  have HGS := Lib.hid hgS
  clear hN hks hap hlen hsl hc0 hc2 hc3 hr0 hvb hg hfb hl0 hET hEG hTG hgS
  go_enter Try.func33, Try.ntmps33
  go_wp2_with fail
  go_loopg [3] N (fun left s3 wr => ∃ i : Nat, i ≤ N ∧ left = N - i ∧ s3 = .int .i64 i ∧ Ph wr 3 ks mkI i 0 ∧ Fr (ks.flatMap kg) w wr)
  case atStart => exact ⟨0, Nat.zero_le _, rfl, rfl, Ph.zero HKS.out, Fr.refl _ _⟩
  case round =>
    obtain ⟨i, hi, rfl, rfl, hph, hfr⟩ := hrel
    have c0 : wr.cell? ⟨g, 4, none⟩ = some (.slice pb N cb) := hfr.cell (by rw [blk_cell HG.out, List.getElem?_toArray]; exact HC0.out) HGS.out
    by_cases hi1 : i < N
    · have hib : i < ks.length := by rw [HN.out]; exact hi1
      obtain ⟨k, hki⟩ : ∃ k, ks[i]? = some k := ⟨ks[i], by simp [hib]⟩
      obtain ⟨b1, o1, c1, e1, r1⟩ := HSL.out.at (i := i) (x := kval k) (by rw [List.getElem?_map, hki]; rfl)
      obtain ⟨rfl, -, rfl⟩ : pb = some ⟨b1, o1, none⟩ ∧ _ ∧ cb = c1 := by injection e1 with x1 x2 x3; exact ⟨x1, x2, x3⟩
      clear e1
      have r2 := hfr.cell r1 (far HFB.out HET.out.symm (HR0.out.blk b1 (by
        have := HVB.out
        cases r0 with
        | none => simp [kval] at this
        | some k => simp [kval, Kp.val] at this; simp [kg, this.1.1])))
      have hkl := HLEN.out i _ hki
      have HKI := Lib.hid hki
      clear hki r1 hib
      rw [kval_eq] at r2
      have gd : decide ((i : Int) < N) = true := by simpa using hi1
      have w1 : wrap64 (-1000 - (i : Int)) = -1000 - i := IntWalk.wrap64_in _ (by have := HNN.out; omega)
      have w2 : wrap64 (-5000000 - (i : Int)) = -5000000 - i := IntWalk.wrap64_in _ (by have := HNN.out; omega)
      have HB1 : Hid (Blk w 40 b1) := Lib.hid (HR0.out.blk b1 (by
        have := HVB.out
        cases r0 with
        | none => simp [kval] at this
        | some k => simp [kval, Kp.val] at this; simp [kg, this.1.1]))
      have HPH := Lib.hid hph
      have HFR := Lib.hid hfr
      clear hph hfr
      obtain ⟨wo, rfl⟩ : ∃ wo : World, wo = wr := ⟨_, rfl⟩
      go_wp2_with fail
      go_loopg [4] (kl k).length (fun left s4 wr => ∃ t : Nat, t ≤ (kl k).length ∧ left = (kl k).length - t ∧ s4 = .int .i64 t ∧ Ph wr 3 ks mkI i t ∧ Fr (ks.flatMap kg) wo wr)
      case atStart => exact ⟨0, Nat.zero_le _, rfl, rfl, HPH.out, Fr.refl _ _⟩
      case round =>
        obtain ⟨t, ht, rfl, rfl, hph, hfr⟩ := hrel
        have c0' := hfr.cell c0 HGS.out
        have r2' := hfr.cell r2 (far HFB.out HET.out.symm HB1.out)
        by_cases ht1 : t < (kl k).length
        · obtain ⟨k0, rfl⟩ : ∃ k0, k = some k0 := by cases k with
            | none => simp [kl] at ht1
            | some k0 => exact ⟨k0, rfl⟩
          have hk0 := hph i k0 HKI.out
          have hcell : ∃ x, wr.cell? ⟨k0.g, k0.pre.length + t, none⟩ = some x := ⟨_, hk0.cellAt t _ (List.getElem?_eq_getElem (by rw [Kp.mark_len _ _ _ (by simp [upto]; exact ht)]; exact ht1))⟩
          obtain ⟨x, hcell⟩ := hcell
          have hfree : wr.frozen? ⟨k0.g, k0.pre.length + t, none⟩ = false := hk0.free _
          have hnext := hph.step HKI.out ht1 HAP.out
          have hmem : k0.g ∈ ks.flatMap kg := mem_flat HKI.out k0.g (by simp [kg])
          have HP := Lib.hid hph
          have HNX := Lib.hid hnext
          have gt : decide ((t : Int) < ((kl (some k0)).length : Nat)) = true := by simpa using ht1
          clear hph hnext hk0
          simp only [kad] at r2'
          generalize (kl (some k0)).length = n at *
          go_wp2_with fail
          go_roundg (n - (t + 1))
          case rel => exact ⟨t + 1, by omega, rfl, rfl, HNX.out, hfr.set (Or.inl hmem) _⟩
          case measure => omega
        · obtain rfl : t = (kl k).length := by omega
          have HNX := Lib.hid (hph.next HKI.out)
          have gt : decide (((kl k).length : Int) < ((kl k).length : Nat)) = false := by simp
          clear hph
          generalize (kl k).length = n at *
          go_wp2_with fail
          go_roundg (N - (i + 1))
          case rel => exact ⟨i + 1, by omega, rfl, next_i64 i (by have := HNN.out; omega), HNX.out, HFR.out.trans hfr (fun _ h => Or.inl h)⟩
          case measure => omega
    · obtain rfl : N = i := by omega
      have hst := CloseSt.begin (o := 4) (T := 40) (m2 := m2I) HG.out HGS.out HC2.out HC3.out (by rw [HN.out]; exact hph) hfr
      have HK := Lib.hid (fun (j : Nat) (k' : Option Kp) (h : (marked mkI ks)[j]? = some k') => marked_at h)
      have HAP' := Lib.hid (marked_apart (mk := mkI) HAP.out)
      have HSUB : Hid (∀ (j : Nat) (k : Option Kp), (marked mkI ks)[j]? = some k → ∀ x ∈ kg k, x ∈ ks.flatMap kg ∧ x < w.heap.size) := Lib.hid (fun j k' hj x hx => by
        obtain ⟨k, h1, h2, _⟩ := marked_at hj
        rw [kg_of_kad h2] at hx
        exact ⟨mem_flat h1 x hx, ((HKS.out j k h1).blk x hx).lt⟩)
      have HLK : Hid ((marked mkI ks).length = N) := Lib.hid (by rw [marked_len]; exact HN.out)
      generalize marked mkI ks = ks' at *
      have HST := Lib.hid hst
      clear hst hph hfr
      have HB1 : Hid (∀ b1 o1, pb = some ⟨b1, o1, none⟩ → ∀ wx, Fr (g :: ks.flatMap kg) w wx → ∀ i v, w.cell? ⟨b1, o1 + i, none⟩ = some v → wx.cell? ⟨b1, o1 + i, none⟩ = some v) := Lib.hid (fun b1 o1 hb wx hf i v hv => by
        have hbb : Blk w 40 b1 := HR0.out.blk b1 (by
          have := HVB.out
          subst hb
          cases r0 with
          | none => simp [kval] at this
          | some k => simp [kval, Kp.val] at this; simp [kg, this.1.1])
        refine hf.cell hv (fun hm => ?_)
        rcases List.mem_cons.1 hm with hm | hm
        · exact hbb.ne ⟨_, HG.out⟩ HTG.out hm
        · exact far HFB.out HET.out.symm hbb hm)
      have HCS : Hid (4 + 3 < cs.length) := Lib.hid (List.getElem?_eq_some_iff.1 HC3.out).1
      obtain ⟨ii, hii, hz0, hz1, hz2⟩ := info_parts Try.infoBI
      obtain ⟨jj, hjj, hy0, hy1, hy2⟩ := info_parts Try.infoBSlI
      clear hi hi1
      go_wp2_with fail
      go_loopg [5] N (fun left s5 wr => ∃ (i : Nat) (ro : Option Kp) (os : List Value), i ≤ N ∧ left = N - i ∧ s5 = .int .i64 i ∧ os.length = i ∧ CloseSt w wr g 4 3 40 55 cs ks ks' m2I ro none os [])
      case atStart => exact ⟨0, none, [], Nat.zero_le _, rfl, rfl, rfl, HST.out⟩
      case round =>
        obtain ⟨i, ro, os, hi, rfl, rfl, hos, hst⟩ := hrel
        have c0 : wr.cell? ⟨g, 4, none⟩ = some (.slice pb N cb) := hst.at0 HC0.out (by decide) (by decide)
        by_cases hi1 : i < N
        · have hib : i < ks'.length := by rw [HLK.out]; exact hi1
          obtain ⟨k', hk'⟩ : ∃ k', ks'[i]? = some k' := ⟨ks'[i], by simp [hib]⟩
          obtain ⟨k, hki, hkad, hkv, hkl⟩ := HK.out i k' hk'
          obtain ⟨k0, hlike, hk0⟩ := hst.cur i k' hk'
          obtain ⟨b1, o1, c1, e1, r1⟩ := HSL.out.at (i := i) (x := kval k) (by rw [List.getElem?_map, hki]; rfl)
          obtain ⟨rfl, -, rfl⟩ : pb = some ⟨b1, o1, none⟩ ∧ _ ∧ cb = c1 := by injection e1 with x1 x2 x3; exact ⟨x1, x2, x3⟩
          have r2 := HB1.out b1 o1 rfl wr hst.fr i _ r1
          rw [← hkv, hlike.val] at r2
          have hlen0 : (kl k0).length ≤ 1073741824 := by rw [← hlike.2.1, hkl, List.length_replicate]; exact HLEN.out i k hki
          have gd : decide ((i : Int) < N) = true := by simpa using hi1
          have w1 : wrap64 (-1000 - (i : Int)) = -1000 - i := IntWalk.wrap64_in _ (by have := HNN.out; omega)
          have w2 : wrap64 (-5000000 - (i : Int)) = -5000000 - i := IntWalk.wrap64_in _ (by have := HNN.out; omega)
          have HST' := Lib.hid hst
          have HKV := Lib.hid hk'
          have HLIKE := Lib.hid hlike
          have HK0 := Lib.hid hk0
          have HL := Lib.hid hlen0
          have HOS := Lib.hid hos
          clear hst e1 r1 hib hki hkad hkv hkl hlike hk0 hk' hlen0 hos
          obtain ⟨wo, rfl⟩ : ∃ wo : World, wo = wr := ⟨_, rfl⟩
          go_wp2_with fail
          go_loopg [6, 7] 16 (fun left s6 s7 wr => ∃ (t : Nat) (lk : Option Kp), t ≤ 16 ∧ left = 16 - t ∧ s7 = .int .i64 t ∧ s6 = kval lk ∧ Grew wo 3 k0 t (m2I i) lk wr)
          case atStart => exact ⟨0, k0, Nat.zero_le _, rfl, rfl, rfl, Grew.zero HK0.out⟩
          case round =>
            obtain ⟨t, lk, ht, rfl, rfl, rfl, hgr⟩ := hrel
            by_cases ht1 : t < 16
            · have hll : (kl lk).length ≤ 1073741840 := by rw [hgr.l, List.length_append, List.length_replicate]; have := HL.out; omega
              have gt : decide ((t : Int) < 16) = true := by simp; omega
              have HGR := Lib.hid hgr
              have HLL := Lib.hid hll
              clear hgr hll
              go_wp2_with (at_builtin; refine wpList_app rfl _ _ 40 rfl 3 ii (.int .i64 0) 8 Try.underlying40 hii hz0 hz1 hz2 rfl lk rfl ?_ _ 1 1 rfl [m2I i] rfl ?_ ?_ ?_ ?_ ?_)
              · exact HGR.out.ok.fr ((Fr.refl [] _).alloc _) (by simp)
              · exact cells_new1 _ _ _
              · intro v hv; rw [List.mem_singleton.1 hv]; rfl
              · have := HLL.out; omega
              · have := HLL.out; unfold maxLen; omega
              · intro v' w' hA
                obtain ⟨lk', rfl, hg'⟩ := (HGR.out.quiet ((Fr.refl [] _).alloc _)).app (s := 1) hA
                clear hA
                have HG' := Lib.hid hg'
                clear hg'
                go_wp2_with fail
                go_roundg (16 - (t + 1))
                case rel => exact ⟨t + 1, lk', by omega, rfl, rfl, rfl, HG'.out⟩
                case measure => omega
            · obtain rfl : 16 = t := by omega
              obtain rfl := HOS.out
              have hst := HST'.out.grew HET.out HEG.out HAP'.out HSUB.out HKV.out HLIKE.out hgr
              have HMK := Lib.hid (((hgr.mark (by decide) HST'.out.fr.size).like HLIKE.out.symm).quiet ((Fr.refl [] _).alloc (.cells #[kval lk] 40)))
              have HQ := Lib.hid (hst.quiet ((Fr.refl [] _).alloc (.cells #[kval lk] 40)))
              have d2 : wr.cell? ⟨g, 6, none⟩ = some (kval ro) := hst.at2 HCS.out
              have hos2 := hst.rowl
              have HNL : Hid ((kl ro).length ≤ 2147483648) := Lib.hid (by rw [hos2]; have := HNN.out; omega)
              clear hst hgr hos2 c0 r2
              obtain ⟨lp, ln, lc, hkv⟩ : ∃ p n c, kval lk = .slice p n c := ⟨_, _, _, kval_eq lk⟩
              rw [hkv] at HMK HQ ⊢
              clear hkv
              go_wp2_with (at_builtin; refine wpList_app rfl _ _ 52 rfl 40 jj (.slice none 0 0) 24 Try.underlying52 hjj hy0 hy1 hy2 rfl ro rfl ?_ _ 1 1 rfl [.slice lp ln lc] rfl ?_ ?_ ?_ ?_ ?_)
              · exact HQ.out.row
              · exact cells_new1 _ _ _
              · rfl
              · have := HNL.out; omega
              · have := HNL.out; unfold maxLen; omega
              · intro v' w' hA
                have hgn := far HQ.out.row.blk HTG.out.symm HQ.out.gblk
                have d3 := hA.fr.cell (HQ.out.at2 HCS.out) hgn
                have d4 : w'.frozen? ⟨g, 6, none⟩ = false := blk_free (hA.fr.heap HQ.out.blk hgn) _
                obtain ⟨ro', rfl, hst'⟩ := HQ.out.one1 HET.out HEG.out HTG.out HKV.out HMK.out hA
                have HST2 := Lib.hid hst'
                obtain ⟨rp, rn, rc, hkr⟩ : ∃ p n c, kval ro' = .slice p n c := ⟨_, _, _, kval_eq ro'⟩
                rw [hkr] at HST2 ⊢
                clear hst' hA hgn d2 hkr
                go_wp2_with fail
                go_roundg (N - (os.length + 1))
                case rel => exact ⟨os.length + 1, ro', os ++ [.slice lp ln lc], by omega, rfl, next_i64 _ (by have := HNN.out; omega), by simp, HST2.out⟩
                case measure => omega
        · obtain rfl : N = i := by omega
          have d2 : wr.cell? ⟨g, 6, none⟩ = some (kval ro) := hst.at2 HCS.out
          have HST2 := Lib.hid hst
          have HOS := Lib.hid hos
          have HROW := Lib.hid hst.row.sl
          rw [hst.rowl] at HROW
          have HONE := Lib.hid hst.one
          clear hst hos
          go_wp2_with fail
          refine (closeI_look HST2.out HC0.out HVB.out HR0.out HL0.out HK.out HG.out HTG.out HFB.out HET.out HLEN.out (by rw [HN.out]; exact HNN.out) HROW.out HONE.out (by rw [HOS.out, HN.out]) (by decide)).mono ?_
          rintro e w' ⟨rfl, rfl⟩
          go_wp2_with fail
          go_loopg [8] N (fun left s8 wr => ∃ (i : Nat) (rm : Option Kp) (ms : List Value), i ≤ N ∧ left = N - i ∧ s8 = .int .i64 i ∧ ms.length = i ∧ CloseSt w wr g 4 3 40 55 cs ks ks' m2I ro rm os ms)
          case atStart => exact ⟨0, none, [], Nat.zero_le _, rfl, rfl, rfl, HST2.out⟩
          case round =>
            clear HST2 HROW HONE d2 c0
            obtain ⟨i, rm, ms, hi, rfl, rfl, hms, hst⟩ := hrel
            have c0 : wr.cell? ⟨g, 4, none⟩ = some (.slice pb N cb) := hst.at0 HC0.out (by decide) (by decide)
            by_cases hi1 : i < N
            · have hib : i < ks'.length := by rw [HLK.out]; exact hi1
              obtain ⟨k', hk'⟩ : ∃ k', ks'[i]? = some k' := ⟨ks'[i], by simp [hib]⟩
              obtain ⟨k, hki, hkad, hkv, hkl⟩ := HK.out i k' hk'
              have gd : decide ((i : Int) < N) = true := by simpa using hi1
              have w1 : wrap64 (-1000 - (i : Int)) = -1000 - i := IntWalk.wrap64_in _ (by have := HNN.out; omega)
              have w2 : wrap64 (-5000000 - (i : Int)) = -5000000 - i := IntWalk.wrap64_in _ (by have := HNN.out; omega)
              have HST' := Lib.hid hst
              have HKI := Lib.hid hki
              have HKV := Lib.hid hk'
              have HKVAL := Lib.hid hkv
              have HKL := Lib.hid hkl
              have HMS := Lib.hid hms
              clear hst hki hib hkad hkv hkl hk' hms c0
              have c0 := HST'.out.at0 HC0.out (by decide) (by decide)
              obtain ⟨wo, rfl⟩ : ∃ wo : World, wo = wr := ⟨_, rfl⟩
              go_wp2_with fail
              go_loopg [9, 10] 700 (fun left s9 s10 wr => ∃ (t : Nat) (lk : Option Kp), t ≤ 700 ∧ left = 700 - t ∧ s10 = .int .i64 t ∧ s9 = kval lk ∧ Grew wo 3 none t (m2I i) lk wr)
              case atStart => exact ⟨0, none, Nat.zero_le _, rfl, rfl, rfl, Grew.zero trivial⟩
              case round =>
              clear c0
              obtain ⟨t, lk, ht, rfl, rfl, rfl, hgr⟩ := hrel
              by_cases ht1 : t < 700
              · have hll : (kl lk).length ≤ 700 := by rw [hgr.l, List.length_append, List.length_replicate, kl, List.length_nil]; omega
                have gt : decide ((t : Int) < 700) = true := by simp; omega
                have HGR := Lib.hid hgr
                have HLL := Lib.hid hll
                clear hgr hll
                go_wp2_with (at_builtin; refine wpList_app rfl _ _ 40 rfl 3 ii (.int .i64 0) 8 Try.underlying40 hii hz0 hz1 hz2 rfl lk rfl ?_ _ 1 1 rfl [m2I i] rfl ?_ ?_ ?_ ?_ ?_)
                · exact HGR.out.ok.fr ((Fr.refl [] _).alloc _) (by simp)
                · exact cells_new1 _ _ _
                · intro v hv; rw [List.mem_singleton.1 hv]; rfl
                · have := HLL.out; omega
                · have := HLL.out; unfold maxLen; omega
                · intro v' w' hA
                  obtain ⟨lk', rfl, hg'⟩ := (HGR.out.quiet ((Fr.refl [] _).alloc _)).app (s := 1) hA
                  clear hA
                  have HG' := Lib.hid hg'
                  clear hg'
                  go_wp2_with fail
                  go_roundg (700 - (t + 1))
                  case rel => exact ⟨t + 1, lk', by omega, rfl, rfl, rfl, HG'.out⟩
                  case measure => omega
              obtain rfl : 700 = t := by omega
              obtain rfl := HMS.out
              have hfr0 : Fr [] wo wr := hgr.fr
              have hst := HST'.out.quiet hfr0
              obtain ⟨k0, hlike, hk0⟩ := hst.cur ms.length k' HKV.out
              obtain ⟨b1, o1, c1, e1, r1⟩ := HSL.out.at (i := ms.length) (x := kval k) (by rw [List.getElem?_map, HKI.out]; rfl)
              obtain ⟨rfl, -, rfl⟩ : pb = some ⟨b1, o1, none⟩ ∧ _ ∧ cb = c1 := by injection e1 with x1 x2 x3; exact ⟨x1, x2, x3⟩
              rw [← HKVAL.out, hlike.val] at r1
              have hbb : Blk w 40 b1 := HR0.out.blk b1 (by
                have := HVB.out
                cases r0 with
                | none => simp [kval] at this
                | some k => simp [kval, Kp.val] at this; simp [kg, this.1.1])
              have HROWM : Hid (b1 ∉ kg rm) := Lib.hid (fun hm => by have := hst.new2 _ hm; have := hbb.lt; omega)
              have HROW1 : Hid (∀ wx, Fr (g :: ks.flatMap kg) w wx → wx.cell? ⟨b1, o1 + ms.length, none⟩ = some (kval k0)) := Lib.hid (fun wx hf => HB1.out b1 o1 rfl wx hf _ _ r1)
              have hlen0 : (kl k0).length ≤ 1073741824 := by rw [← hlike.2.1, HKL.out, List.length_replicate]; exact HLEN.out _ k HKI.out
              have HL := Lib.hid hlen0
              have HNM : Hid ((kl rm).length ≤ 2147483648) := Lib.hid (by rw [hst.mrowl]; have := HNN.out; omega)
              have HLIKE := Lib.hid hlike
              have hq0 := hst.quiet (Fr.drew (Fr.refl [] _))
              have HQ0 := Lib.hid hq0
              have HK0' : Hid (kok wr.drew 3 k0) := Lib.hid (hk0.fr (Fr.drew (Fr.refl [] _)) (by simp))
              obtain ⟨lk0, rfl⟩ : ∃ lk0, lk = some lk0 := by
                cases lk with
                | none => have := congrArg List.length hgr.l; simp [kl] at this
                | some lk0 => exact ⟨lk0, rfl⟩
              have HL7 : Hid (lk0.l = List.replicate 700 (m2I ms.length)) := Lib.hid (by have := hgr.l; rwa [kl, kl, List.nil_append] at this)
              have HLK0 : Hid (lk0.Lies wr 3) := Lib.hid hgr.ok
              have HONE0 : Hid (∀ v ∈ lk0.l, v.oneCell' = true) := Lib.hid (fun v hv => by rw [HL7.out] at hv; rw [List.eq_of_mem_replicate hv]; rfl)
              have h00 : wr.drew.cell? ⟨g, 4, none⟩ = some (.slice (some ⟨b1, o1, none⟩) N cb) := hq0.at0 HC0.out (by decide) (by decide)
              have h03 : wr.drew.cell? ⟨g, 7, none⟩ = some (kval rm) := hq0.at3 HCS.out
              have h0r := HROW1.out _ hq0.fr
              have x0 : wr.cell? ⟨g, 4, none⟩ = some (.slice (some ⟨b1, o1, none⟩) N cb) := h00
              clear hst hq0 hfr0 hgr r1 hbb hlen0 hlike hk0 e1
              go_wp2_with fail
              refine wp_region_G (n := 18) (S := fun w' => w'.cell? ⟨g, 4, none⟩ = some (.slice (some ⟨b1, o1, none⟩) N cb) ∧ w'.cell? ⟨g, 7, none⟩ = some (kval rm) ∧ w'.cell? ⟨b1, o1 + ms.length, none⟩ = some (kval k0)) (by kernel_rfl) ⟨h00, h03, h0r⟩ (fun hHeld => ?_)
-- 19 operations
              refine wpG_take (i := 0) (oi := ⟨some 103, _, _, _, _, _⟩) (v := ?v0) rfl (by kernel_rfl) (by kernel_rfl) (fun _ _ _ h => h) (Or.inl ⟨by rfl, ?hy0⟩) (by assumption) ?rest0
              case hy0 => (intro w hSw; (try dsimp only at hSw); go_simp; try with_reducible rfl)
              try simp only [Act.put, List.setIfInBounds_toArray, List.set_cons_zero, List.set_cons_succ]
              refine wpG_take (i := 1) (oi := ⟨some 104, _, _, _, _, _⟩) (v := ?v1) rfl (by kernel_rfl) (by kernel_rfl) (fun _ _ _ h => h) (Or.inl ⟨by rfl, ?hy1⟩) (by assumption) ?rest1
              case hy1 => (intro w hSw; (try dsimp only at hSw); go_simp; try with_reducible rfl)
              try simp only [Act.put, List.setIfInBounds_toArray, List.set_cons_zero, List.set_cons_succ]
              refine wpG_take (i := 2) (oi := ⟨some 105, _, _, _, _, _⟩) (v := ?v2) rfl (by kernel_rfl) (by kernel_rfl) (fun _ _ _ h => h) (Or.inl ⟨by rfl, ?hy2⟩) (by assumption) ?rest2
              case hy2 => (intro w hSw; (try dsimp only at hSw); go_simp; try with_reducible rfl)
              try simp only [Act.put, List.setIfInBounds_toArray, List.set_cons_zero, List.set_cons_succ]
              refine wpG_take (i := 3) (oi := ⟨some 106, _, _, _, _, _⟩) (v := ?v3) rfl (by kernel_rfl) (by kernel_rfl) (fun _ _ _ h => h) (Or.inl ⟨by rfl, ?hy3⟩) (by assumption) ?rest3
              case hy3 => (intro w hSw; (try dsimp only at hSw); go_simp; try with_reducible rfl)
              try simp only [Act.put, List.setIfInBounds_toArray, List.set_cons_zero, List.set_cons_succ]
              refine wpG_take (i := 4) (oi := ⟨some 107, _, _, _, _, _⟩) (v := ?v4) rfl (by kernel_rfl) (by kernel_rfl) (fun _ _ _ h => h) (Or.inl ⟨by rfl, ?hy4⟩) (by assumption) ?rest4
              case hy4 => (intro w hSw; (try dsimp only at hSw); go_simp; try with_reducible rfl)
              try simp only [Act.put, List.setIfInBounds_toArray, List.set_cons_zero, List.set_cons_succ]
              refine wpG_take (i := 5) (oi := ⟨some 108, _, _, _, _, _⟩) (v := ?v5) rfl (by kernel_rfl) (by kernel_rfl) (fun _ _ _ h => h) (Or.inl ⟨by rfl, ?hy5⟩) (by assumption) ?rest5
              case hy5 => (intro w hSw; (try dsimp only at hSw); go_simp; try with_reducible rfl)
              try simp only [Act.put, List.setIfInBounds_toArray, List.set_cons_zero, List.set_cons_succ]
              refine wpG_take (i := 6) (oi := ⟨some 109, _, _, _, _, _⟩) (v := ?v6) rfl (by kernel_rfl) (by kernel_rfl) (fun _ _ _ h => h) (Or.inl ⟨by rfl, ?hy6⟩) (by assumption) ?rest6
              case hy6 => (intro w hSw; (try dsimp only at hSw); go_simp; try with_reducible rfl)
              try simp only [Act.put, List.setIfInBounds_toArray, List.set_cons_zero, List.set_cons_succ]
              refine wpG_take (i := 7) (oi := ⟨some 110, _, _, _, _, _⟩) (v := ?v7) rfl (by kernel_rfl) (by kernel_rfl) (fun _ _ _ h => h) (Or.inl ⟨by rfl, ?hy7⟩) (by assumption) ?rest7
              case hy7 => (intro w hSw; (try dsimp only at hSw); go_simp; try with_reducible rfl)
              try simp only [Act.put, List.setIfInBounds_toArray, List.set_cons_zero, List.set_cons_succ]
              refine wpG_take (i := 8) (oi := ⟨some 111, _, _, _, _, _⟩) (v := ?v8) rfl (by kernel_rfl) (by kernel_rfl) (fun _ _ _ h => h) (Or.inl ⟨by rfl, ?hy8⟩) (by assumption) ?rest8
              case hy8 => (intro w hSw; (try dsimp only at hSw); go_simp; try with_reducible rfl)
              try simp only [Act.put, List.setIfInBounds_toArray, List.set_cons_zero, List.set_cons_succ]
              refine wpG_take (i := 9) (oi := ⟨some 112, _, _, _, _, _⟩) (v := ?v9) rfl (by kernel_rfl) (by kernel_rfl) (fun _ _ _ h => h) (Or.inl ⟨by rfl, ?hy9⟩) (by assumption) ?rest9
              case hy9 => (intro w hSw; (try dsimp only at hSw); go_simp; try with_reducible rfl)
              try simp only [Act.put, List.setIfInBounds_toArray, List.set_cons_zero, List.set_cons_succ]
              refine wpG_take (i := 10) (oi := ⟨some 113, _, _, _, _, _⟩) (v := ?v10) rfl (by kernel_rfl) (by kernel_rfl) (fun _ _ _ h => h) (Or.inl ⟨by rfl, ?hy10⟩) (by assumption) ?rest10
              case hy10 => (intro w hSw; (try dsimp only at hSw); go_simp; try with_reducible rfl)
              try simp only [Act.put, List.setIfInBounds_toArray, List.set_cons_zero, List.set_cons_succ]
              refine wpG_take (i := 11) (oi := ⟨some 114, _, _, _, _, _⟩) (v := ?v11) rfl (by kernel_rfl) (by kernel_rfl) (fun _ _ _ h => h) (Or.inl ⟨by rfl, ?hy11⟩) (by assumption) ?rest11
              case hy11 => (intro w hSw; (try dsimp only at hSw); go_simp; try with_reducible rfl)
              try simp only [Act.put, List.setIfInBounds_toArray, List.set_cons_zero, List.set_cons_succ]
              refine wpG_take (i := 12) (oi := ⟨some 115, _, _, _, _, _⟩) (v := ?v12) rfl (by kernel_rfl) (by kernel_rfl) (fun _ _ _ h => h) (Or.inl ⟨by rfl, ?hy12⟩) (by assumption) ?rest12
              case hy12 => (intro w hSw; (try dsimp only at hSw); go_simp; try with_reducible rfl)
              try simp only [Act.put, List.setIfInBounds_toArray, List.set_cons_zero, List.set_cons_succ]
              refine wpG_ready (rs := [13]) (by kernel_rfl) (by simp) (AllReadyG.cons (o := ⟨some 116, _, _, _, _, _⟩) rfl (fun K hK => ?_) AllReadyG.nil)
              refine wp_app rfl _ _ 40 rfl 3 ii (.int .i64 0) 8 Try.underlying40 hii hz0 hz1 hz2 rfl k0 rfl HK0'.out _ lk0.l.length (lk0.l.length + lk0.spare.length) rfl lk0.l rfl (HLK0.out.cells.fr (Fr.drew (Fr.refl [] _)) (by simp)) HONE0.out (by have := HL.out; have := HL7.out; rw [this, List.length_replicate]; omega) (by have := HL.out; have := HL7.out; rw [this, List.length_replicate]; unfold maxLen; omega) ?_
              intro v1 w1 hA1
              rw [HL7.out] at hA1
              obtain ⟨lk1, rfl, hg1⟩ := (Grew.zero HK0'.out).app hA1
              have hst1 := HQ0.out.grew HET.out HEG.out HAP'.out HSUB.out HKV.out HLIKE.out hg1
              rw [Nat.zero_add] at hg1
              have hmk1 := (hg1.mark (by decide) HQ0.out.fr.size).like HLIKE.out.symm
              have p0 := hst1.at0 HC0.out (by decide) (by decide)
              have p3 := hst1.at3 HCS.out
              have pr := HROW1.out w1 hst1.fr
              obtain ⟨lp, ln, lc, hkv⟩ : ∃ p n c, kval lk1 = .slice p n c := ⟨_, _, _, kval_eq lk1⟩
              rw [hkv] at hmk1 ⊢
              have HQ1 := Lib.hid (hst1.quiet ((Fr.refl [] _).alloc (.cells #[.slice lp ln lc] 40)))
              have HMK1 := Lib.hid (hmk1.quiet ((Fr.refl [] _).alloc (.cells #[.slice lp ln lc] 40)))
              clear hst1 hmk1 hg1 hA1 hkv
              refine hK.out _ _ (fun _ => ?_) (fun hHeld0 => ?_)
              · exact ⟨by assumption, by assumption, by assumption⟩
              have hHeld := hHeld0 (by decide)
              clear hHeld0
              clear hK K
              try simp only [Act.put, List.setIfInBounds_toArray, List.set_cons_zero, List.set_cons_succ]
              refine wpG_ready (rs := [14]) (by kernel_rfl) (by simp) (AllReadyG.cons (o := ⟨some 117, _, _, _, _, _⟩) rfl (fun K hK => ?_) AllReadyG.nil)
              go_simp
              have q0 := HQ1.out.at0 HC0.out (by decide) (by decide)
              have q3 := HQ1.out.at3 HCS.out
              have qr := HROW1.out _ HQ1.out.fr
              refine hK.out _ _ (fun _ => ?_) (fun hHeld0 => ?_)
              · exact ⟨by assumption, by assumption, by assumption⟩
              have hHeld := hHeld0 (by decide)
              clear hHeld0
              clear hK K
              try simp only [Act.put, List.setIfInBounds_toArray, List.set_cons_zero, List.set_cons_succ]
              refine wpG_ready (rs := [15]) (by kernel_rfl) (by simp) (AllReadyG.cons (o := ⟨some 118, _, _, _, _, _⟩) rfl (fun K hK => ?_) AllReadyG.nil)
              refine wp_app rfl _ _ 52 rfl 40 jj (.slice none 0 0) 24 Try.underlying52 hjj hy0 hy1 hy2 rfl rm rfl HQ1.out.mrow _ 1 1 rfl [.slice lp ln lc] rfl (cells_new1 _ _ _) (fun v hv => by rw [List.mem_singleton.1 hv]; rfl) (by have := HNM.out; omega) (by have := HNM.out; unfold maxLen; omega) ?_
              intro v2 w2 hA2
              have hgn := far HQ1.out.mrow.blk HTG.out.symm HQ1.out.gblk
              have s0 := hA2.fr.cell q0 hgn
              have s3 := hA2.fr.cell q3 hgn
              have s4 : w2.frozen? ⟨g, 7, none⟩ = false := blk_free (hA2.fr.heap HQ1.out.blk hgn) _
              have sr := hA2.fr.cell qr (fun hm => HROWM.out hm)
              obtain ⟨rm', rfl, hst3⟩ := HQ1.out.many1 HET.out HEG.out HTG.out HKV.out HMK1.out hA2
              have HST3' := Lib.hid hst3
              obtain ⟨rp, rn, rc, hkr⟩ : ∃ p n c, kval rm' = .slice p n c := ⟨_, _, _, kval_eq rm'⟩
              rw [hkr] at HST3' ⊢
              clear hst3 hA2 hgn hkr
              refine hK.out _ _ (fun _ => ?_) (fun hHeld0 => ?_)
              · exact ⟨by assumption, by assumption, by assumption⟩
              have hHeld := hHeld0 (by decide)
              clear hHeld0
              clear hK K
              try simp only [Act.put, List.setIfInBounds_toArray, List.set_cons_zero, List.set_cons_succ]
              refine wpG_take (i := 16) (oi := ⟨some 119, _, _, _, _, _⟩) (v := ?v16) rfl (by kernel_rfl) (by kernel_rfl) (fun _ _ _ h => h) (Or.inl ⟨by rfl, ?hy16⟩) (by assumption) ?rest16
              case hy16 => (intro w hSw; (try dsimp only at hSw); go_simp; try with_reducible rfl)
              try simp only [Act.put, List.setIfInBounds_toArray, List.set_cons_zero, List.set_cons_succ]
              refine wpG_take (i := 17) (oi := ⟨some 120, _, _, _, _, _⟩) (v := ?v17) rfl (by kernel_rfl) (by kernel_rfl) (fun _ _ _ h => h) (Or.inl ⟨by rfl, ?hy17⟩) (by assumption) ?rest17
              case hy17 => (intro w hSw; (try dsimp only at hSw); go_simp; try with_reducible rfl)
              try simp only [Act.put, List.setIfInBounds_toArray, List.set_cons_zero, List.set_cons_succ]
              refine wpG_ready (rs := [18]) (by kernel_rfl) (by simp) (AllReadyG.cons (o := ⟨none, _, _, _, _, _⟩) rfl (fun K hK => ?_) AllReadyG.nil)
              go_simp
              refine hK.out _ _ (fun h => absurd h (by decide)) (fun _ => ?_)
              clear hK K
              try simp only [Act.put, List.setIfInBounds_toArray, List.set_cons_zero, List.set_cons_succ]
              refine wpG_done (by kernel_rfl) ?_ _
              go_wp2_with fail
              go_roundg (N - (ms.length + 1))
              case rel => exact ⟨ms.length + 1, rm', ms ++ [.slice lp ln lc], by omega, rfl, next_i64 _ (by have := HNN.out; omega), by simp, HST3'.out⟩
              case measure => omega
            · obtain rfl : N = i := by omega
              have d2 : wr.cell? ⟨g, 6, none⟩ = some (kval ro) := hst.at2 HCS.out
              have d3 : wr.cell? ⟨g, 7, none⟩ = some (kval rm) := hst.at3 HCS.out
              have HST3 := Lib.hid hst
              have HROW := Lib.hid hst.row.sl
              have HMROW := Lib.hid hst.mrow.sl
              rw [hst.rowl] at HROW
              rw [hst.mrowl] at HMROW
              have HONE := Lib.hid hst.one
              have HMANY := Lib.hid hst.many
              have HMS := Lib.hid hms
              clear hst hms
              go_wp2_with fail
              refine (closeI_look HST3.out HC0.out HVB.out HR0.out HL0.out HK.out HG.out HTG.out HFB.out HET.out HLEN.out (by rw [HN.out]; exact HNN.out) HMROW.out HMANY.out (by rw [HMS.out, HN.out]) (by decide)).mono ?_
              rintro e w' ⟨rfl, rfl⟩
              go_wp2_with fail
              refine (closeI_look HST3.out HC0.out HVB.out HR0.out HL0.out HK.out HG.out HTG.out HFB.out HET.out HLEN.out (by rw [HN.out]; exact HNN.out) HROW.out HONE.out (by rw [HOS.out, HN.out]) (by decide)).mono ?_
              rintro e w' ⟨rfl, rfl⟩
              go_wp2_with fail
              go_ret
              exact ⟨rfl, ⟨_, _, HST3.out.blk⟩, HST3.out.fr⟩
end Go.Proofs.Ytjdkdakepomhdaa
