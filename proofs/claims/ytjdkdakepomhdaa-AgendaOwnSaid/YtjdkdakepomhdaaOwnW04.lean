/- AgendaOwn (layer 4): the walk. -/
import Derived.Test.YtjdkdakepomhdaaOwn04
namespace Go.Proofs.Ytjdkdakepomhdaa
open Go.RowKit

theorem OwMid.keepLast {w0 w w2 : World} {lb bb g0 r0 g1 r1 T0 : Nat} {now most : Int} {lk : Option Kp} (h : OwMid w0 w lb bb g0 r0 g1 r1 T0 now most lk w2) (hT : T0 < 900) :
    Calls Try.prog 20 #[.pointer (some ⟨bb, 0, none⟩), kval lk] w2 fun v w' => v = .returned (.tuple #[]) ∧ ∃ B, IsBook w' bb B ∧ B.t = Prt.nil ∧ (∀ x ∈ B.blocks bb, w0.heap.size ≤ x) ∧ Below w0.heap.size w0 w' := by
  obtain ⟨S0, S1, T1, B0, B1, k0, k1, Q, B2, ht, hn0, hn1, hQ, hd⟩ := h.ex
  obtain ⟨B, hb1, hb2, hb3, hb4⟩ := h.bk
  have hsz := ht.a.ag.size
  refine (bytesI_ok hb1 hd.ok (fun x hx hm => by have := hd.new x hx; have := hb4 x hm; omega) (by rw [hd.l, List.length_map, List.length_take]; have := hQ.perm.length_eq; omega) (by
    rw [hd.l]; intro v hv
    obtain ⟨e, -, rfl⟩ := List.mem_map.1 hv
    exact ⟨e.id, rfl⟩)).mono ?_
  rintro v w4 ⟨rfl, B', hb', hf, hs, -, hbt⟩
  refine ⟨rfl, B', hb', hbt.trans hb2, fun x hx => ?_, h.bel.trans (hf.below h.bel.size hb3)⟩
  have hb0 := h.bel0
  have hb5 := h.bel.size
  rcases hs x hx with h4 | h4 | h4
  · exact hb3 x h4
  · have := hd.new x h4; omega
  · omega
theorem OwSt.cells {w0 w : World} {lb bb g0 r0 g1 r1 T0 : Nat} (h : OwSt w0 w lb bb g0 r0 g1 r1 T0) : w.cell? ⟨lb, 0, none⟩ = some (.pointer (some ⟨g0, 0, none⟩)) ∧ w.cell? ⟨lb, 1, none⟩ = some (.pointer (some ⟨r0, 0, none⟩)) ∧ Below w0.heap.size w0 w := by
  obtain ⟨S0, S1, T1, hx⟩ := h.st
  exact ⟨hx.cells.1, hx.cells.2.1, hx.bel⟩
theorem OwMid.cells {w0 w w2 : World} {lb bb g0 r0 g1 r1 T0 : Nat} {now most : Int} {lk : Option Kp} (h : OwMid w0 w lb bb g0 r0 g1 r1 T0 now most lk w2) : w2.cell? ⟨lb, 0, none⟩ = some (.pointer (some ⟨g0, 0, none⟩)) ∧ w2.cell? ⟨lb, 1, none⟩ = some (.pointer (some ⟨r0, 0, none⟩)) ∧ Below w0.heap.size w0 w2 :=
  ⟨blk_cell' h.arr rfl, blk_cell' h.arr rfl, h.bel⟩
theorem OwSt.drew {w0 w : World} {lb bb g0 r0 g1 r1 T0 : Nat} (h : OwSt w0 w lb bb g0 r0 g1 r1 T0) : OwSt w0 w.drew lb bb g0 r0 g1 r1 T0 := by
  obtain ⟨S0, S1, T1, hx⟩ := h.st
  obtain ⟨B, hb1, hb2, hb3⟩ := h.bk
  exact ⟨⟨S0, S1, T1, hx.new ((Fr.refl [] w).drew)⟩, B, hb1.fr ((Fr.refl [] w).drew) (by simp), hb2, hb3⟩
theorem OwMid.drew {w0 w w2 : World} {lb bb g0 r0 g1 r1 T0 : Nat} {now most : Int} {lk : Option Kp} (h : OwMid w0 w lb bb g0 r0 g1 r1 T0 now most lk w2) : OwMid w0 w lb bb g0 r0 g1 r1 T0 now most lk w2.drew := by
  obtain ⟨S0, S1, T1, B0, B1, k0, k1, Q, B2, ht, hn0, hn1, hQ, hd⟩ := h.ex
  obtain ⟨B, hb1, hb2, hb3, hb4⟩ := h.bk
  exact ⟨⟨S0, S1, T1, B0, B1, k0, k1, Q, B2, ht, hn0, hn1, hQ, hd.drew 1⟩, h.arr, h.bel.trans (((Fr.refl [] w2).drew).below h.bel.size (by simp)), h.bel0, B, hb1.fr ((Fr.refl [] w2).drew) (by simp), hb2, hb3, hb4⟩
theorem opAt' {w wr : World} {b o : Nat} {ops : List OpA} {i : Nat} {a : OpA} (h : ∀ i a, ops[i]? = some a → ∃ cs, cs.length = 4 ∧ Cells w ⟨b, o + i * 4, none⟩ cs ∧ RdOpA w cs a) (hb : Below w.heap.size w wr) (hi : ops[i]? = some a) :
    wr.cell? ⟨b, o + i * 4, none⟩ = some (.int .i64 a.on) ∧ wr.cell? ⟨b, o + i * 4 + 1, none⟩ = some (.int .i64 a.act) ∧ wr.cell? ⟨b, o + i * 4 + 2, none⟩ = some (.int .i64 a.id) ∧ wr.cell? ⟨b, o + i * 4 + 3, none⟩ = some (.int .i64 a.n) ∧ (Lit.int .i64 a.id).wf = true := by
  obtain ⟨cs, _, hc, rfl, hw⟩ := h i a hi
  have h2 := hc.below hb
  exact ⟨h2.lit 0 _ rfl, h2.lit 1 _ rfl, h2.lit 2 _ rfl, h2.lit 3 _ rfl, hw⟩

set_option maxRecDepth 100000 in
set_option maxHeartbeats 4000000 in
theorem own_walk (w : World) (v : Value) (ops : List OpA) (hops : RdSl 4 RdOpA w v ops) :
    Calls Try.prog 5 #[v] w fun e w' => e = .returned (.bool true) ∧ Below w.heap.size w w' := by
  obtain ⟨sp, cap, rfl, hcap1, hcap2, hat⟩ := hops.at (by decide)
  have HAT := Lib.hid hat
  clear hops hat
  go_enter Try.func5, Try.ntmps5
  go_wp2_with fail
  refine (two_any _).mono ?_
  rintro v w1 ⟨g0, r0, B0, g1, r1, B1, rfl, ht, hn0, hn1, hf⟩
  unfold ptr
  have HT := Lib.hid ht
  have HN0 := Lib.hid hn0
  have HN1 := Lib.hid hn1
  have HF := Lib.hid hf
  clear ht hn0 hn1 hf
  have hbf : Fr [] w1 (w1.alloc (.cells #[ptr g0, ptr r0, ptr g1, ptr r1] 27)) := (Fr.refl _ _).alloc _
  have hbg : Fr [] (w1.alloc (.cells #[ptr g0, ptr r0, ptr g1, ptr r1] 27)) ((w1.alloc (.cells #[ptr g0, ptr r0, ptr g1, ptr r1] 27)).alloc (.cells Bk.nil.cells.toArray 55)) := (Fr.refl _ _).alloc _
  have HX : Hid (OwSt w ((w1.alloc (.cells #[ptr g0, ptr r0, ptr g1, ptr r1] 27)).alloc (.cells Bk.nil.cells.toArray 55)) w1.heap.size (w1.heap.size + 1) g0 r0 g1 r1 0) := by
    have hs := HF.out.size
    have hnew := heap_new (w1.alloc (.cells #[ptr g0, ptr r0, ptr g1, ptr r1] 27)) (.cells Bk.nil.cells.toArray 55)
    rw [World.size_alloc] at hnew
    refine Lib.hid ⟨⟨[], [], 0, ?_⟩, Bk.nil, IsBook.new hnew, rfl, fun x hx => ?_⟩
    · have h1 : ExSt w (w1.alloc (.cells #[ptr g0, ptr r0, ptr g1, ptr r1] 27)) w1.heap.size g0 r0 g1 r1 [] [] 0 0 := ⟨⟨B0, B1, none, none, HT.out.fr hbf (by simp), HN0.out, HN1.out⟩, heap_new _ _, (HF.out.below (Nat.le_refl _) (by simp)).trans (hbf.below HF.out.size (by simp))⟩
      exact h1.new hbg
    · rcases Bk.mem.1 hx with hx | hx | hx | hx
      · omega
      · simp [Bk.nil, Prt.nil, Prt.blocks, kg] at hx
      · simp [Bk.nil, Prt.nil, Prt.blocks, kg] at hx
      · simp [Bk.nil, Prt.nil, Prt.blocks, kg] at hx
  obtain ⟨lb, hlb⟩ : ∃ lb, w1.heap.size = lb := ⟨_, rfl⟩
  clear hbf hbg
  go_upto_block 0 with (fail)
  rw [hlb] at HX
  go_cut [] (fun wr => ∃ T, T ≤ 400 ∧ OwSt w wr lb (lb + 1) g0 r0 g1 r1 T)
  case first =>
    go_wp2_with fail
    go_loopg [6] ops.length (fun left s6 wr => ∃ j : Nat, j ≤ ops.length ∧ ops.length - j = left ∧ s6 = .int .i64 j ∧ j ≤ 400 ∧ Hid (∃ T, T ≤ j ∧ OwSt w wr lb (lb + 1) g0 r0 g1 r1 T))
    case atStart => exact ⟨0, Nat.zero_le _, rfl, rfl, by omega, Lib.hid ⟨0, Nat.le_refl _, HX.out⟩⟩
    case round =>
      obtain ⟨j, hj, rfl, rfl, hj4, HX1⟩ := hrel
      by_cases hgo : j < ops.length ∧ j < 400
      · obtain ⟨hj1, hj2⟩ := hgo
        obtain ⟨b, o, rfl, hbw, hops2⟩ := HAT.out.resolve_left (by rintro rfl; simp at hj1)
        have gd1 : decide ((j : Int) < 400) = true := by simp; omega
        have gd0 : decide ((j : Int) < ops.length) = true := by simpa using hj1
        obtain ⟨T, hT, hx⟩ := HX1.out
        obtain ⟨⟨on, act, id, n⟩, hop⟩ : ∃ o, ops[j]? = some o := ⟨_, List.getElem?_eq_getElem hj1⟩
        obtain ⟨c0, c1, hbel⟩ := hx.cells
        obtain ⟨q0, q1, q2, q3, hwf⟩ := opAt' hops2 hbel hop
        have HJ := Lib.hid hop
        have HX2 := Lib.hid hx
        have HW := Lib.hid hwf
        have HOP := Lib.hid hops2
        clear hops2 hx hwf hop hbel
        dsimp only at q0 q1 q2 q3 HW
        by_cases h6 : act = 6
        · subst h6
          go_wp2_with fail
          go_region_held3 (fun w' => w'.cell? ⟨lb, 0, none⟩ = some (.pointer (some ⟨g0, 0, none⟩)) ∧ w'.cell? ⟨lb, 1, none⟩ = some (.pointer (some ⟨r0, 0, none⟩)) ∧ w'.cell? ⟨b, o + j * 4, none⟩ = some (.int .i64 on) ∧ w'.cell? ⟨b, o + j * 4 + 1, none⟩ = some (.int .i64 6) ∧ w'.cell? ⟨b, o + j * 4 + 2, none⟩ = some (.int .i64 id) ∧ w'.cell? ⟨b, o + j * 4 + 3, none⟩ = some (.int .i64 n)) (first | exact ⟨c0, c1, q0, q1, q2, q3⟩ | exact ⟨d0, d1, p0, p1, p2, p3⟩) (first
            | (go_at_call 14; refine (HX2.out.drew.due (by omega) n id).mono ?_; rintro v w2 ⟨lk, rfl, hm⟩; obtain ⟨d0, d1, hb2⟩ := hm.cells; obtain ⟨p0, p1, p2, p3, -⟩ := opAt' HOP.out hb2 HJ.out; obtain ⟨lp, ln, lc, hlk⟩ := kval_open lk; rw [hlk]; have HLK := Lib.hid hlk; have HM := Lib.hid hm; clear hm hlk hb2))
          go_wp2_with fail
          go_region_held3 (fun w' => w'.cell? ⟨lb, 0, none⟩ = some (.pointer (some ⟨g0, 0, none⟩)) ∧ w'.cell? ⟨lb, 1, none⟩ = some (.pointer (some ⟨r0, 0, none⟩)) ∧ w'.cell? ⟨b, o + j * 4, none⟩ = some (.int .i64 on) ∧ w'.cell? ⟨b, o + j * 4 + 1, none⟩ = some (.int .i64 6) ∧ w'.cell? ⟨b, o + j * 4 + 2, none⟩ = some (.int .i64 id) ∧ w'.cell? ⟨b, o + j * 4 + 3, none⟩ = some (.int .i64 n)) (first | exact ⟨d0, d1, p0, p1, p2, p3⟩ | exact ⟨e0, e1, s0, s1, s2, s3⟩) (first
            | (go_at_call 19; refine (HM.out.drew.rdue (by omega)).mono ?_; rintro v w3 ⟨lk2, L, rfl, he, hk2, hl2⟩; obtain ⟨e0, e1, hb3⟩ := he.st.cells; obtain ⟨s0, s1, s2, s3, -⟩ := opAt' HOP.out hb3 HJ.out; obtain ⟨mp, mn, mc, hmk⟩ := kval_open lk2; rw [hmk]; have hsa := he.ok.sl; rw [HLK.out, he.l] at hsa; have hsb := hk2.sl; rw [hmk, hl2] at hsb; have HE := Lib.hid he; have HSA := Lib.hid hsa; have HSB := Lib.hid hsb; clear he hk2 hl2 hmk hsa hsb hb3)
            | (go_at_call 18; refine (intsEq_ok (w := w3) HSA.out HSB.out HE.out.good (by have := HE.out.small; omega)).mono ?_; rintro v w4 ⟨rfl, m, rfl⟩; have HE4 := Lib.hid (HE.out.quiet ((Fr.refl [] w3).drewN m))))
          have hkp := HE4.out.keep
          rw [HLK.out] at hkp
          have HKP := Lib.hid hkp
          clear hkp
          go_wp2_with (go_at_call 20; refine HKP.out.mono ?_; rintro v w5 ⟨rfl, hx5⟩; have HX5 := Lib.hid hx5; clear hx5)
          go_roundg (ops.length - (j + 1))
          case rel => exact ⟨j + 1, by omega, rfl, by go_num, by omega, Lib.hid ⟨T, by omega, HX5.out⟩⟩
          case measure => omega
        · have hb6 : (act == 6) = false := by simpa using h6
          go_wp2_with fail
          go_region_held3 (fun w' => w'.cell? ⟨lb, 0, none⟩ = some (.pointer (some ⟨g0, 0, none⟩)) ∧ w'.cell? ⟨lb, 1, none⟩ = some (.pointer (some ⟨r0, 0, none⟩)) ∧ w'.cell? ⟨b, o + j * 4, none⟩ = some (.int .i64 on) ∧ w'.cell? ⟨b, o + j * 4 + 1, none⟩ = some (.int .i64 act) ∧ w'.cell? ⟨b, o + j * 4 + 2, none⟩ = some (.int .i64 id) ∧ w'.cell? ⟨b, o + j * 4 + 3, none⟩ = some (.int .i64 n)) (first | exact ⟨c0, c1, q0, q1, q2, q3⟩ | exact ⟨d0, d1, p0, p1, p2, p3⟩) (first
            | (go_at_call 8; refine (HX2.out.drew.play ⟨on, act, id, n⟩ HW.out (by omega)).mono ?_; rintro v w3 ⟨rfl, T', hT', hx3⟩; obtain ⟨d0, d1, hb3⟩ := hx3.cells; obtain ⟨p0, p1, p2, p3, -⟩ := opAt' HOP.out hb3 HJ.out; have HX3 := Lib.hid hx3; clear hx3 hb3))
          go_wp2_with fail
          go_roundg (ops.length - (j + 1))
          case rel => exact ⟨j + 1, by omega, rfl, by go_num, by omega, Lib.hid ⟨T', by omega, HX3.out⟩⟩
          case measure => omega
      · have HX9 : Hid (∃ T, T ≤ 400 ∧ OwSt w wr lb (lb + 1) g0 r0 g1 r1 T) := Lib.hid (by
          obtain ⟨T, h1, h2⟩ := HX1.out
          exact ⟨T, by omega, h2⟩)
        by_cases hg1 : j < ops.length
        · have gd0 : decide ((j : Int) < ops.length) = true := by simpa using hg1
          have gd2 : decide ((j : Int) < 400) = false := by simp; omega
          go_wp2_with fail
          go_meet
          exact HX9.out
        · have gd0 : decide ((j : Int) < ops.length) = false := by simpa using hg1
          go_wp2_with fail
          go_meet
          exact HX9.out
  case rest =>
    obtain ⟨T, hT, hx⟩ := hcut
    obtain ⟨c0, c1, -⟩ := hx.cells
    have HX2 := Lib.hid hx
    clear hx
    go_wp2_with (first
      | (go_at_call 14; refine (HX2.out.due (by omega) _ _).mono ?_; rintro v w2 ⟨lk, rfl, hm⟩; have hkp := hm.keepLast (by omega); obtain ⟨lp, ln, lc, hlk⟩ := kval_open lk; rw [hlk] at hkp ⊢; have HKP := Lib.hid hkp; clear hm hlk hkp)
      | (go_at_call 20; refine HKP.out.mono ?_; rintro v w5 ⟨rfl, B, hb1, hb2, hb3, hbl⟩; have HB := Lib.hid hb1; have HBT := Lib.hid hb2; have HB3 := Lib.hid hb3; have HBL := Lib.hid hbl; clear hb1 hb2 hb3 hbl)
      | (go_at_call 21; refine (close_ok HB.out HBT.out).mono ?_; rintro v w6 ⟨rfl, hf6⟩; have HF6 := Lib.hid hf6; clear hf6))
    go_ret
    exact ⟨rfl, HBL.out.trans (HF6.out.below HBL.out.size HB3.out)⟩
end Go.Proofs.Ytjdkdakepomhdaa
