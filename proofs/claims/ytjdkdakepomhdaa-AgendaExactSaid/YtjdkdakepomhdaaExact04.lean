/- AgendaExact (layer 4): the walk. -/
import Derived.Test.YtjdkdakepomhdaaEx04
namespace Go.Proofs.Ytjdkdakepomhdaa
open Go.RowKit

def ExAt (w wr : World) (lb g0 r0 g1 r1 n : Nat) : Prop := ∃ S0 S1 T0 T1, ExSt w wr lb g0 r0 g1 r1 S0 S1 T0 T1 ∧ T0 ≤ n ∧ T1 ≤ n
theorem RdSl.opAt {w wr : World} {b o : Nat} {ops : List OpA} {i : Nat} {a : OpA} (h : ∀ i a, ops[i]? = some a → ∃ cs, cs.length = 4 ∧ Cells w ⟨b, o + i * 4, none⟩ cs ∧ RdOpA w cs a) (hb : Below w.heap.size w wr) (hi : ops[i]? = some a) :
    wr.cell? ⟨b, o + i * 4, none⟩ = some (.int .i64 a.on) ∧ wr.cell? ⟨b, o + i * 4 + 1, none⟩ = some (.int .i64 a.act) ∧ wr.cell? ⟨b, o + i * 4 + 2, none⟩ = some (.int .i64 a.id) ∧ wr.cell? ⟨b, o + i * 4 + 3, none⟩ = some (.int .i64 a.n) ∧ (Lit.int .i64 a.id).wf = true := by
  obtain ⟨cs, _, hc, rfl, hw⟩ := h i a hi
  have h2 := hc.below hb
  exact ⟨h2.lit 0 _ rfl, h2.lit 1 _ rfl, h2.lit 2 _ rfl, h2.lit 3 _ rfl, hw⟩

set_option maxRecDepth 100000 in
set_option maxHeartbeats 4000000 in
theorem exact_walk (w : World) (v : Value) (ops : List OpA) (hops : RdSl 4 RdOpA w v ops) :
    Calls Try.prog 3 #[v] w fun e w' => e = .returned (.bool true) ∧ Below w.heap.size w w' := by
  obtain ⟨sp, cap, rfl, hcap1, hcap2, hat⟩ := hops.at (by decide)
  have HAT := Lib.hid hat
  clear hops hat
  go_enter Try.func3, Try.ntmps3
  go_wp2_with fail
  refine (two_any _).mono ?_
  rintro v w1 ⟨g0, r0, B0, g1, r1, B1, rfl, ht, hn0, hn1, hf⟩
  unfold ptr
  have HT := Lib.hid ht
  have HN0 := Lib.hid hn0
  have HN1 := Lib.hid hn1
  have HF := Lib.hid hf
  clear ht hn0 hn1 hf
  have hbf : Fr [] w1 (w1.alloc (.cells #[ptr g0, ptr r0, ptr g1, ptr r1] 27)) := (Fr.refl _ _).alloc _
  have HX : Hid (ExAt w (w1.alloc (.cells #[ptr g0, ptr r0, ptr g1, ptr r1] 27)) w1.heap.size g0 r0 g1 r1 0) :=
    Lib.hid ⟨[], [], 0, 0, ⟨⟨B0, B1, none, none, HT.out.fr hbf (by simp), HN0.out, HN1.out⟩, heap_new _ _, (HF.out.below (Nat.le_refl _) (by simp)).trans (hbf.below HF.out.size (by simp))⟩, Nat.le_refl _, Nat.le_refl _⟩
  obtain ⟨lb, hlb⟩ : ∃ lb, w1.heap.size = lb := ⟨_, rfl⟩
  clear hbf
  go_upto_block 0 with (fail)
  rw [hlb] at HX
  go_cut [] (fun wr => ExAt w wr lb g0 r0 g1 r1 400)
  case first =>
    go_wp2_with fail
    go_loopg [5] ops.length (fun left s5 wr => ∃ j : Nat, j ≤ ops.length ∧ ops.length - j = left ∧ s5 = .int .i64 j ∧ j ≤ 400 ∧ Hid (ExAt w wr lb g0 r0 g1 r1 j))
    case atStart => exact ⟨0, Nat.zero_le _, rfl, rfl, by omega, HX⟩
    case round =>
      obtain ⟨j, hj, rfl, rfl, hj4, HX1⟩ := hrel
      by_cases hgo : j < ops.length ∧ j < 400
      · obtain ⟨hj1, hj2⟩ := hgo
        obtain ⟨b, o, rfl, hbw, hops2⟩ := HAT.out.resolve_left (by rintro rfl; simp at hj1)
        have gd1 : decide ((j : Int) < 400) = true := by simp; omega
        have gd0 : decide ((j : Int) < ops.length) = true := by simpa using hj1
        obtain ⟨S0, S1, T0, T1, hx, ht0, ht1⟩ := HX1.out
        obtain ⟨⟨on, act, id, n⟩, hop⟩ : ∃ o, ops[j]? = some o := ⟨_, List.getElem?_eq_getElem hj1⟩
        obtain ⟨q0, q1, q2, q3, hwf⟩ := RdSl.opAt hops2 hx.bel hop
        have HJ := Lib.hid hop
        obtain ⟨c0, c1, c2, c3⟩ := hx.cells
        have HX2 := Lib.hid hx
        have HW := Lib.hid hwf
        have HOP := Lib.hid hops2
        clear hops2 hx hwf hop
        dsimp only at q0 q1 q2 q3 HW
        obtain hon | hon : on % 2 = 0 ∨ on % 2 = 1 := by omega
        · have hbit : bits .and .i64 on 1 = 0 := by rw [and_one]; exact hon
          clear hon
          go_wp2_with fail
          go_region_held3 (fun w' => w'.cell? ⟨lb, 0, none⟩ = some (.pointer (some ⟨g0, 0, none⟩)) ∧ w'.cell? ⟨lb, 1, none⟩ = some (.pointer (some ⟨r0, 0, none⟩)) ∧ w'.cell? ⟨lb, 2, none⟩ = some (.pointer (some ⟨g1, 0, none⟩)) ∧ w'.cell? ⟨lb, 3, none⟩ = some (.pointer (some ⟨r1, 0, none⟩)) ∧ w'.cell? ⟨b, o + j * 4, none⟩ = some (.int .i64 on) ∧ w'.cell? ⟨b, o + j * 4 + 1, none⟩ = some (.int .i64 act) ∧ w'.cell? ⟨b, o + j * 4 + 2, none⟩ = some (.int .i64 id) ∧ w'.cell? ⟨b, o + j * 4 + 3, none⟩ = some (.int .i64 n)) (first | exact ⟨c0, c1, c2, c3, q0, q1, q2, q3⟩ | exact ⟨d0, d1, d2, d3, p0, p1, p2, p3⟩) (first
            | (go_at_call 8; refine ((HX2.out.new ((Fr.refl [] _).drew)).play0 ⟨on, act, id, n⟩ HW.out (by omega)).mono ?_; rintro v w3 ⟨rfl, S', T', hT', hx3⟩; obtain ⟨d0, d1, d2, d3⟩ := hx3.cells; have hbb := hx3.bel; obtain ⟨p0, p1, p2, p3, -⟩ := RdSl.opAt HOP.out hbb HJ.out; have HX3 := Lib.hid hx3; clear hx3 hbb))
          go_wp2_with fail
          go_roundg (ops.length - (j + 1))
          case rel => exact ⟨j + 1, by omega, rfl, by go_num, by omega, Lib.hid ⟨S', S1, T', T1, HX3.out, by omega, by omega⟩⟩
          case measure => omega
        · have hbit : bits .and .i64 on 1 = 1 := by rw [and_one]; exact hon
          clear hon
          go_wp2_with fail
          go_region_held3 (fun w' => w'.cell? ⟨lb, 0, none⟩ = some (.pointer (some ⟨g0, 0, none⟩)) ∧ w'.cell? ⟨lb, 1, none⟩ = some (.pointer (some ⟨r0, 0, none⟩)) ∧ w'.cell? ⟨lb, 2, none⟩ = some (.pointer (some ⟨g1, 0, none⟩)) ∧ w'.cell? ⟨lb, 3, none⟩ = some (.pointer (some ⟨r1, 0, none⟩)) ∧ w'.cell? ⟨b, o + j * 4, none⟩ = some (.int .i64 on) ∧ w'.cell? ⟨b, o + j * 4 + 1, none⟩ = some (.int .i64 act) ∧ w'.cell? ⟨b, o + j * 4 + 2, none⟩ = some (.int .i64 id) ∧ w'.cell? ⟨b, o + j * 4 + 3, none⟩ = some (.int .i64 n)) (first | exact ⟨c0, c1, c2, c3, q0, q1, q2, q3⟩ | exact ⟨d0, d1, d2, d3, p0, p1, p2, p3⟩) (first
            | (go_at_call 8; refine ((HX2.out.new ((Fr.refl [] _).drew)).play1 ⟨on, act, id, n⟩ HW.out (by omega)).mono ?_; rintro v w3 ⟨rfl, S', T', hT', hx3⟩; obtain ⟨d0, d1, d2, d3⟩ := hx3.cells; have hbb := hx3.bel; obtain ⟨p0, p1, p2, p3, -⟩ := RdSl.opAt HOP.out hbb HJ.out; have HX3 := Lib.hid hx3; clear hx3 hbb))
          go_wp2_with fail
          go_roundg (ops.length - (j + 1))
          case rel => exact ⟨j + 1, by omega, rfl, by go_num, by omega, Lib.hid ⟨S0, S', T0, T', HX3.out, by omega, by omega⟩⟩
          case measure => omega
      · have HX9 : Hid (ExAt w wr lb g0 r0 g1 r1 400) := Lib.hid (by
          obtain ⟨S0, S1, T0, T1, h1, h2, h3⟩ := HX1.out
          exact ⟨S0, S1, T0, T1, h1, by omega, by omega⟩)
        by_cases hg1 : j < ops.length
        · have gd0 : decide ((j : Int) < ops.length) = true := by simpa using hg1
          have gd2 : decide ((j : Int) < 400) = false := by simp; omega
          go_wp2_with fail
          go_meet
          exact HX9.out
        · have gd0 : decide ((j : Int) < ops.length) = false := by simpa using hg1
          go_wp2_with fail
          go_meet
          exact HX9.out
  case rest =>
    have HX := Lib.hid hcut
    clear hcut
    go_wp2_with fail
    go_loopg [6] 2 (fun left s6 wr => ∃ i : Nat, i ≤ 2 ∧ 2 - i = left ∧ s6 = .int .i64 i ∧ Hid (∃ S0 S1 T0 T1, ExSt w wr lb g0 r0 g1 r1 S0 S1 T0 T1 ∧ T0 ≤ 400 ∧ T1 ≤ 400))
    case atStart => exact ⟨0, by omega, rfl, rfl, HX⟩
    case round =>
      obtain ⟨i, hi, rfl, rfl, HR⟩ := hrel
      obtain rfl | rfl | rfl : i = 0 ∨ i = 1 ∨ i = 2 := by omega
      · obtain ⟨S0, S1, T0, T1, hx, hT0, hT1⟩ := HR.out
        have HX0 := Lib.hid hx
        clear hx
        go_wp2_with fail
        go_loopg [] S0.length (fun left wr => ∃ S0 : List Ent, S0.length = left ∧ Hid (ExSt w wr lb g0 r0 g1 r1 S0 S1 T0 T1))
        case atStart => exact ⟨S0, rfl, HX0⟩
        case round =>
          obtain ⟨S0, rfl, HX1⟩ := hrel
          obtain ⟨c0, c1, c2, c3⟩ := HX1.out.cells
          obtain ⟨p, c, hl⟩ := HX1.out.len0
          have hsz := HX1.out.sizes
          by_cases hS : S0 = []
          · subst hS
            rw [List.length_nil] at hl
            have HFI := Lib.hid (HX1.out.first0 (by omega))
            go_wp2_with (go_at_call 10; refine HFI.out.mono ?_; rintro v w3 ⟨rfl, hx3⟩; have HX3 := Lib.hid hx3; clear hx3)
            go_roundg (2 - (0 + 1))
            case rel => exact ⟨0 + 1, by omega, rfl, rfl, Lib.hid ⟨_, _, T0, T1, HX3.out, hT0, hT1⟩⟩
            case measure => omega
          · have gl : 0 < S0.length := List.length_pos_iff.2 hS
            have HRF := Lib.hid (HX1.out.rfirst0 (by omega) hS)
            go_wp2_with (first
              | (go_at_call 9; refine HRF.out.mono ?_; rintro v w3 ⟨e, he, hew, rfl, hx3⟩; obtain ⟨d0, d1, d2, d3⟩ := hx3.cells; have HX3 := Lib.hid hx3; have HE := Lib.hid he; have HEW := Lib.hid hew; have HFI := Lib.hid (hx3.first0 (by omega)); clear hx3 he hew)
              | (go_at_call 10; refine HFI.out.mono ?_; rintro v w4 ⟨rfl, hx4⟩; obtain ⟨e0, e1, e2, e3⟩ := hx4.cells; have HX4 := Lib.hid hx4; have HDR := Lib.hid (hx4.drop0 e.id HEW.out (by omega)); clear hx4)
              | (go_at_call 8; refine HDR.out.mono ?_; rintro v w5 ⟨rfl, hx5⟩; have HX5 := Lib.hid hx5; clear hx5))
            go_roundg (S0.filter (notId e.id)).length
            case rel => exact ⟨S0.filter (notId e.id), rfl, HX5⟩
            case measure => exact filter_less HE.out
      · obtain ⟨S0, S1, T0, T1, hx, hT0, hT1⟩ := HR.out
        have HX0 := Lib.hid hx
        clear hx
        go_wp2_with fail
        go_loopg [] S1.length (fun left wr => ∃ S1 : List Ent, S1.length = left ∧ Hid (ExSt w wr lb g0 r0 g1 r1 S0 S1 T0 T1))
        case atStart => exact ⟨S1, rfl, HX0⟩
        case round =>
          obtain ⟨S1, rfl, HX1⟩ := hrel
          obtain ⟨c0, c1, c2, c3⟩ := HX1.out.cells
          obtain ⟨p, c, hl⟩ := HX1.out.len1
          have hsz := HX1.out.sizes
          by_cases hS : S1 = []
          · subst hS
            rw [List.length_nil] at hl
            have HFI := Lib.hid (HX1.out.first1 (by omega))
            go_wp2_with (go_at_call 10; refine HFI.out.mono ?_; rintro v w3 ⟨rfl, hx3⟩; have HX3 := Lib.hid hx3; clear hx3)
            go_roundg (2 - (1 + 1))
            case rel => exact ⟨1 + 1, by omega, rfl, rfl, Lib.hid ⟨_, _, T0, T1, HX3.out, hT0, hT1⟩⟩
            case measure => omega
          · have gl : 0 < S1.length := List.length_pos_iff.2 hS
            have HRF := Lib.hid (HX1.out.rfirst1 (by omega) hS)
            go_wp2_with (first
              | (go_at_call 9; refine HRF.out.mono ?_; rintro v w3 ⟨e, he, hew, rfl, hx3⟩; obtain ⟨d0, d1, d2, d3⟩ := hx3.cells; have HX3 := Lib.hid hx3; have HE := Lib.hid he; have HEW := Lib.hid hew; have HFI := Lib.hid (hx3.first1 (by omega)); clear hx3 he hew)
              | (go_at_call 10; refine HFI.out.mono ?_; rintro v w4 ⟨rfl, hx4⟩; obtain ⟨e0, e1, e2, e3⟩ := hx4.cells; have HX4 := Lib.hid hx4; have HDR := Lib.hid (hx4.drop1 e.id HEW.out (by omega)); clear hx4)
              | (go_at_call 8; refine HDR.out.mono ?_; rintro v w5 ⟨rfl, hx5⟩; have HX5 := Lib.hid hx5; clear hx5))
            go_roundg (S1.filter (notId e.id)).length
            case rel => exact ⟨S1.filter (notId e.id), rfl, HX5⟩
            case measure => exact filter_less HE.out
      · obtain ⟨S0, S1, T0, T1, hx, -, -⟩ := HR.out
        have HBL := Lib.hid hx.bel
        clear hx
        go_wp2_with fail
        go_ret
        exact ⟨rfl, HBL.out⟩
end Go.Proofs.Ytjdkdakepomhdaa
