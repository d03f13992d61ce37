/- DiskKeeps (layer 19): what is written stands, and a fuse of k writes. -/
import Derived.Test.YtmdmdjolfahjbaaDiskLaw
import Derived.Test.YtmdmdjolfahjbaaArgs
import Derived.Deep.MidRow
import Derived.Deep.QuietTactic
import Derived.BigQuiet
import Derived.Deep.LoopGhost
import Derived.Deep.CutBlock
import Derived.Deep.DeepCutAuto
namespace Go.Proofs.Ytmdmdjolfahjbaa
open Go.RowKit

structure OpD where
  on : Int
  act : Int
  n : Int
  data : List UInt8

def RdOp (w : World) (cs : List Value) (o : OpD) : Prop :=
  ∃ v, cs = [.int .i64 o.on, .int .i64 o.act, .int .i64 o.n, v] ∧ (Lit.int .i64 o.n).wf = true ∧ RdSl 1 RdU8 w v o.data

theorem rd_op {H : Type} {enc : TypeId × Value → H} {w : World} {base : Nat} {spare : Nat → Bool} {held : Bool} {fuel : Nat} {cs : List Value} {x : DataW H × List MemPlace}
    (h : DataW.trod enc Try.prog w base spare held fuel 33 cs = some x) : ∃ o, RdOp w cs o := by
  obtain ⟨hl, m, hf⟩ := rd_struct Try.underlying33 h
  rw [show Try.prog.cellsOf 33 = 4 by kernel_rfl] at hl
  match cs, hl with
  | [c0, c1, c2, c3], _ =>
    have c3' : Try.prog.cellsOf 5 = 1 := by kernel_rfl
    obtain ⟨y0, h0⟩ := hf 0 _ rfl
    obtain ⟨y1, h1⟩ := hf 1 _ rfl
    obtain ⟨y2, h2⟩ := hf 2 _ rfl
    obtain ⟨y3, h3⟩ := hf 3 _ rfl
    replace h0 : DataW.trod enc Try.prog w base spare held m 3 [c0] = some y0 := h0
    replace h1 : DataW.trod enc Try.prog w base spare held m 3 [c1] = some y1 := h1
    replace h2 : DataW.trod enc Try.prog w base spare held m 3 [c2] = some y2 := h2
    replace h3 : DataW.trod enc Try.prog w base spare held m 31 [c3] = some y3 := h3
    obtain ⟨n0, e0, _⟩ := rd_int Try.underlying3 h0
    obtain ⟨n1, e1, _⟩ := rd_int Try.underlying3 h1
    obtain ⟨n2, e2, w2⟩ := rd_int Try.underlying3 h2
    obtain ⟨l, v, e3, r3⟩ := rd_slice (R := RdU8) Try.underlying31 c3' (fun _ _ _ h => rd_u8 Try.underlying5 h) h3
    simp at e0 e1 e2 e3
    subst e0 e1 e2 e3
    exact ⟨⟨n0, n1, n2, l⟩, c3, rfl, w2, r3⟩

theorem RdOp.below {w w' : World} {cs : List Value} {o : OpD} (h : RdOp w cs o) (hb : Below w.heap.size w w') : RdOp w' cs o := by
  obtain ⟨v, e, h1, h2⟩ := h
  exact ⟨v, e, h1, h2.below hb (fun _ _ h => h)⟩

def zeroWant : Array Value := ((List.replicate 128 (0 : UInt8)).map u8v).toArray
theorem zero_want (w : World) : (zeroValue 29).run Try.prog w = .ok (.agg zeroWant) w := by kernel_rfl
theorem zero_blk (w : World) : (zeroValue 28).run Try.prog w = .ok (.agg zeroArr) w := by kernel_rfl

/-- The first m bytes, padded to 16. -/
def pad (m : Nat) (l : List UInt8) : List UInt8 := l.take m ++ List.replicate (16 - m) 0

def pad16 (l : List UInt8) : List UInt8 := l.take 16 ++ List.replicate (16 - l.length) 0
theorem pad_succ (m : Nat) (l : List UInt8) (h1 : m < 16) (h2 : m < l.length) : ((pad (m + 1) l).map u8v) = ((pad m l).map u8v).set m (u8v l[m]) := by
  unfold pad
  rw [← List.map_set, List.set_append_right _ _ (by simp; omega)]
  congr 1
  have e : m - (l.take m).length = 0 := by simp; omega
  rw [e, show 16 - m = (16 - (m + 1)) + 1 by omega, List.replicate_succ, List.set_cons_zero, List.take_succ_eq_append_getElem h2, List.append_assoc]
  rfl
theorem pad_cell (m : Nat) (l : List UInt8) (h1 : m < 16) (h2 : m < l.length) : ((pad m l).map u8v).toArray[m]? = some (u8v 0) := by
  have e : m - min m l.length = 0 := by omega
  have e2 : min m l.length = m := by omega
  simp [pad, List.getElem?_append, List.getElem?_replicate, e2]; omega
theorem pad_end (m : Nat) (l : List UInt8) (h1 : m ≤ 16) (h2 : m ≤ l.length) (h : ¬ (m < 16 ∧ m < l.length)) : pad m l = pad16 l := by
  unfold pad pad16
  by_cases h16 : m = 16
  · subst h16; congr 2; omega
  · have : m = l.length := by omega
    subst this
    rw [List.take_of_length_le (Nat.le_refl _), List.take_of_length_le (by omega)]
theorem pad16_len (l : List UInt8) : (pad16 l).length = 16 := by simp [pad16]; omega

/-- The loop's relation. -/
structure KeepsRel (w wr : World) (g bb wb : Nat) (k : Int) (D : Dk) : Prop where
  disk : IsDisk wr g bb D
  want : wr.heap[wb]? = some (.cells (D.bytes.map u8v).toArray 29 (0, 0))
  n : D.n = 8
  fused : D.fused = true
  left : D.left = k - D.writes
  down : D.down = (D.left == 0)
  lo : 0 ≤ D.writes
  hi : D.writes ≤ k
  below : Below w.heap.size w wr

theorem blk_info : (Try.prog.info? 28).map (·.size) = some 16 := by kernel_rfl
theorem writes_lt {k a b : Int} {d : Bool} (h : b = k - a) (hd : d = (b == 0)) (hdd : d = false) (hle : a ≤ k) : a < k := by
  subst hdd
  have h2 : b ≠ 0 := fun h0 => by rw [h0] at hd; simp at hd
  omega
theorem writes_eq {k a b : Int} {d : Bool} (h : b = k - a) (hd : d = (b == 0)) (hdd : d = true) : a = k := by
  subst hdd
  have h2 : b = 0 := by simpa using hd.symm
  omega

theorem KeepsRel.fr {w wo wc : World} {g bb wb : Nat} {k : Int} {D : Dk} (h : KeepsRel w wo g bb wb k D) (hf : Fr [] wo wc) : KeepsRel w wc g bb wb k D :=
  ⟨h.disk.fr hf (by simp) (by simp), hf.heap h.want (by simp), h.n, h.fused, h.left, h.down, h.lo, h.hi, h.below.trans (hf.below h.below.size (by simp))⟩
theorem write_writes {w wo : World} {g bb wb : Nat} {k : Int} {D : Dk} (h : KeepsRel w wo g bb wb k D) (hd : D.down = false) (h0 : 0 ≤ D.writes) (h1 : D.writes < 100) {n : Nat} {PB : List UInt8} : (D.write n PB).writes = D.writes + 1 := by
  have e : wrap64 (D.writes + 1) = D.writes + 1 := by unfold wrap64; omega
  simp [Dk.write, h.fused, Dk.fuse, hd, e]
theorem keeps_next {w wo wc w6 : World} {g bb wb : Nat} {k : Int} {D : Dk} (h : KeepsRel w wo g bb wb k D) (hd : D.down = false) (h1 : D.writes < k) (hk : k < 50) {n : Nat} (hn : n < 8) {PB : List UInt8} (hlb : PB.length = 16)
    (hne : g < wb) (hgB : w.heap.size ≤ g) (hbB : w.heap.size ≤ bb) (hfo : Fr [] wo wc) (hd6 : IsDisk w6 g bb (D.write n PB)) (hfr6 : Fr [g, bb] wc w6) (hw2 : wc.heap[wb]? = some (.cells (D.bytes.map u8v).toArray 29 (0, 0))) :
    KeepsRel w (w6.setCells wb (n * 16) (PB.map u8v)) g bb wb k (D.write n PB) := by
  have hsz := h.disk.sizes
  have hsw := hfo.size
  have hlo := h.lo
  have hl := h.left
  have hn8 := h.n
  have hlen := h.disk.len
  have hbw := h.below.size
  have hbb : bb ≠ wb := by
    rintro rfl
    have := h.disk.row.symm.trans h.want
    simp at this
  have hw6 := hfr6.heap hw2 (by simp; omega)
  have hset := setCells_blk (PB.map u8v) (n * 16) w6 (D.bytes.map u8v) hw6 (by simp; omega)
  have ew : wrap64 (D.left - 1) = D.left - 1 := by unfold wrap64; omega
  have ew2 : wrap64 (D.writes + 1) = D.writes + 1 := by unfold wrap64; omega
  have hD : D.write n PB = { D with bytes := splice D.bytes (16 * n) PB, writes := D.writes + 1, fused := decide (0 ≤ D.left - 1), left := D.left - 1, down := D.left - 1 == 0 } := by
    simp [Dk.write, h.fused, Dk.fuse, hd, ew, ew2]
  have hF : Fr [g, bb, wb] wo (w6.setCells wb (n * 16) (PB.map u8v)) := Fr.setCells (by simp) _ _ _ ((hfo.mono (T := [g, bb, wb]) (by simp)).trans hfr6 (by simp))
  refine ⟨?_, ?_, ?_, ?_, ?_, ?_, ?_, ?_, ?_⟩
  · exact hd6.fr (Fr.setCells (S := [wb]) (by simp) _ _ _ (Fr.refl _ _)) (by simp; omega) (by simpa using hbb)
  · rw [hset, hD]
    simp [splice, List.map_take, List.map_drop, Nat.mul_comm]
  · rw [hD]; exact h.n
  · rw [hD]; simp; omega
  · rw [hD]; simp; omega
  · rw [hD]
  · rw [hD]; simp; omega
  · rw [hD]; simp; omega
  · refine h.below.trans (hF.below hbw ?_)
    simp; omega

set_option maxHeartbeats 4000000 in
set_option maxRecDepth 100000 in
theorem keeps_walk (w : World) (v : Value) (ops : List OpD) (hops : RdSl 4 RdOp w v ops) (fuse : Int) :
    Calls Try.prog 3 #[v, .int .i64 fuse] w fun e w' => e = .returned (.bool true) ∧ Below w.heap.size w w' := by
  obtain ⟨sp, cap, rfl, hcap, hmax, hel⟩ := hops.at (by decide)
  have hr1 : -50 < fuse.tmod 50 := by have := Int.lt_tmod_of_pos fuse (show (0 : Int) < 50 by decide); omega
  have hr2 : fuse.tmod 50 < 50 := Int.tmod_lt_of_pos _ (by decide)
  have hz1 := zero_want
  have hz2 := zero_blk
  go_enter Try.func3, Try.ntmps3
  go_wp2_with fail
  refine (new_ok 8 w (by decide) (by decide)).mono ?_
  rintro e w1 ⟨rfl, hd1, hfr1⟩
  go_wp2_with fail
  refine (wakes_any w1).mono ?_
  rintro e w2 ⟨rfl, hfr2⟩
  have hd2 := hd1.fr hfr2 (by simp) (by simp)
  have hf2 := hfr1.trans hfr2 (by simp)
  clear hd1 hfr1 hfr2
  go_upto_if 35 with (fail)
  go_cut [7] (fun s7 wx => ∃ k : Int, 0 ≤ k ∧ k < 50 ∧ s7 = .int .i64 k ∧ w2 = wx)
  case first =>
    by_cases hneg : fuse.tmod 50 < 0
    · go_wp2_with fail
      go_meet
      exact ⟨_, by omega, by omega, rfl, rfl⟩
    · go_wp2_with fail
      go_meet
      exact ⟨_, by omega, by omega, rfl, rfl⟩
  case rest =>
    obtain ⟨k, k0, k1, rfl, rfl⟩ := hcut
    clear hr1 hr2
    go_wp2_with fail
    have hw2 := hf2.size
    have hd3 := hd2.fr ((Fr.refl [] w2).alloc (.cells zeroWant 29)) (by simp) (by simp)
    have hwant := heap_new w2 (.cells zeroWant 29)
    have hf3 := hf2.alloc (.cells zeroWant 29)
    refine (fuse_any hd3 k).mono ?_
    rintro e w3 ⟨rfl, hd4, hfr4⟩
    have hne1 : w.heap.size + 1 < w2.heap.size := lt_of_heap hd2.obj
    have hrel0 : KeepsRel w w3 (w.heap.size + 1) w.heap.size w2.heap.size k ((Dk.new (Int.toNat 8)).fuse k) := by
      refine ⟨hd4, ?_, rfl, ?_, ?_, ?_, ?_, ?_, ?_⟩
      · exact hfr4.heap hwant (by simp; omega)
      · simp [Dk.fuse, Dk.new]; omega
      · simp [Dk.fuse, Dk.new]
      · simp [Dk.fuse, Dk.new]
      · simp [Dk.fuse, Dk.new]
      · simp [Dk.fuse, Dk.new]; omega
      · exact (hf3.trans hfr4 (by simp)).below (Nat.le_refl _) (by simp)
    clear hd4 hfr4 hwant hd3 hf3
    have HEL := Lib.hid hel
    have hlen : ops.length ≤ 9223372036854775807 := by unfold maxLen at hmax; omega
    clear hel hd2 hops hcap hmax
    go_upto_block 0 with (fail)
    go_cut [9] (fun s9 wx => ∃ D : Dk, s9 = .int .i64 D.writes ∧ KeepsRel w wx (w.heap.size + 1) w.heap.size w2.heap.size k D)
    case first =>
      go_wp2_with fail
      go_loopg [9, 10] ops.length (fun left dn i wr => ∃ (j : Nat) (D : Dk), j ≤ ops.length ∧ left = ops.length - j ∧ i = .int .i64 j ∧ dn = .int .i64 D.writes ∧ KeepsRel w wr (w.heap.size + 1) w.heap.size w2.heap.size k D)
      case atStart => exact ⟨0, _, Nat.zero_le _, rfl, rfl, rfl, hrel0⟩
      case round =>
        obtain ⟨wo, rfl⟩ : ∃ wo : World, wo = wr := ⟨_, rfl⟩
        obtain ⟨j, D, hj, rfl, rfl, rfl, hrel⟩ := hrel
        clear hrel0
        have hd := hrel.disk
        have hsz := hd.sizes
        have hbl := hrel.below
        have HWANT := Lib.hid hrel.want
        have hn8 : D.n ≤ 8 := by have := hrel.n; omega
        have hn9 : 8 ≤ D.n := by have := hrel.n; omega
        have hwb := lt_of_heap hrel.want
        by_cases hgo : j < ops.length ∧ j < 200
        · obtain ⟨hj1, hj2⟩ := hgo
          obtain ⟨b, o, rfl, hbw, hops2⟩ := HEL.out.resolve_left (by rintro rfl; simp at hj1)
          obtain ⟨cs, hz9, hcells, v, rfl, hnw, hdata⟩ := hops2 j ops[j] (by simp [hj1])
          obtain ⟨dsp, dcap, rfl, hdc, hdm, hdc2⟩ := rd_bytes hdata
          have g1 : decide ((j : Int) < 200) = true := by simp; omega
          have hbr : b < wo.heap.size := by have := hbl.size; omega
          have q23 := hcells.below hbl
          have q3 := q23.lit 3 _ rfl
          have q2 := q23.lit 2 _ rfl
          clear q23
          have hdlen : ops[j].data.length ≤ 9223372036854775807 := by unfold maxLen at hdm; omega
          clear hops2 hdata hcells hdm hz9
          generalize ops[j].data = data at *
          generalize ops[j].n = N at *
          go_upto_block 2 with (fail)
          go_cut [] (fun wx => wx.heap[wo.heap.size]? = some (.cells ((pad16 data).map u8v).toArray 28 (0, 0)) ∧ Fr [] wo wx)
          case first =>
            go_wp2_with fail
            go_loopg [12] 16 (fun left c wr => ∃ m : Nat, m ≤ 16 ∧ left = 16 - m ∧ m ≤ data.length ∧ c = .int .i64 m ∧ wr.heap[wo.heap.size]? = some (.cells ((pad m data).map u8v).toArray 28 (0, 0)) ∧ Fr [wo.heap.size] (wo.alloc (.cells zeroArr 28)) wr)
            case atStart => exact ⟨0, by omega, rfl, by omega, rfl, by rw [heap_new]; rfl, Fr.refl _ _⟩
            case round =>
              obtain ⟨m, hm1, rfl, hm2, rfl, hblk, hfr5⟩ := hrel
              have hsz5 := hfr5.size
              rw [World.size_alloc] at hsz5
              have hfo : Fr [wo.heap.size] wo wr := ((Fr.refl [wo.heap.size] wo).alloc _).trans hfr5 (by simp)
              have hb5 : Below wo.heap.size wo wr := hfo.below (Nat.le_refl _) (by simp)
              have r3 := (hb5.cell (p := ⟨b, o + j * 4 + 3, none⟩) hbr).trans q3
              by_cases hin : m < 16 ∧ m < data.length
              · obtain ⟨hin1, hin2⟩ := hin
                obtain ⟨db, doff, rfl, hdb, hdc3⟩ := hdc2.resolve_left (by intro h; rw [h] at hin2; simp at hin2)
                have r4 : wr.cell? ⟨db, doff + m, none⟩ = some (.int .u8 ((data[m]).toNat : Int)) := ((hdc3.below hbl).below hb5).lit m (u8v (data[m])) (by simp [hin2])
                have r5 : wr.cell? ⟨wo.heap.size, m, none⟩ = some (.int .u8 0) := blk_cell' hblk (by rw [pad_cell m _ hin1 hin2]; rfl)
                have r6 := blk_free hblk m
                go_wp2_with fail
                go_roundg (16 - (m + 1))
                case rel =>
                  refine ⟨m + 1, by omega, rfl, by omega, by go_num, ?_, hfr5.set (by simp) _⟩
                  rw [blk_set hblk]
                  congr 2
                  rw [pad_succ m _ hin1 hin2]; simp [u8v]
                case measure => omega
              · have hfin : pad m data = pad16 data := pad_end m _ hm1 hm2 hin
                have HB : wr.heap[wo.heap.size]? = some (.cells ((pad16 data).map u8v).toArray 28 (0, 0)) := by rw [← hfin]; exact hblk
                by_cases hi16 : m < 16
                · have hi17 : ¬ (m < data.length) := by omega
                  go_wp2_with fail
                  go_meet
                  exact ⟨HB, hfo.mono (by simp)⟩
                · go_wp2_with fail
                  go_meet
                  exact ⟨HB, hfo.mono (by simp)⟩
          case rest =>
            obtain ⟨hblk, hfo⟩ := hcut
            have q4 := hfo.cell q2 (by simp)
            have t1 : -8 < N.tmod 8 := by have := Int.lt_tmod_of_pos N (show (0 : Int) < 8 by decide); omega
            have t2 : N.tmod 8 < 8 := Int.tmod_lt_of_pos _ (by decide)
            have HBLK := Lib.hid hblk
            have hsz2 := hfo.size
            have hszc := lt_of_heap hblk
            clear hblk q2 q3
            go_upto_if 82 with (fail)
            go_cut [13] (fun s13 wx => ∃ nn : Int, 0 ≤ nn ∧ nn < 8 ∧ s13 = .int .i64 nn ∧ wc = wx)
            case first =>
              by_cases hs : N.tmod 8 < 0
              · go_wp2_with fail
                go_meet
                exact ⟨_, by omega, by omega, rfl, rfl⟩
              · go_wp2_with fail
                go_meet
                exact ⟨_, by omega, by omega, rfl, rfl⟩
            case rest =>
              obtain ⟨nn, hn0, hn1, rfl, rfl⟩ := hcut
              clear t1 t2 q4 hnw
              have hdr := hd.fr hfo (by simp) (by simp)
              have hcb : Cells wc ⟨wo.heap.size, 0, none⟩ ((pad16 data).map u8v) := Cells.of_blk HBLK.out 0 _ (fun j v hv => by simpa using hv)
              have HW2 := Lib.hid (hfo.heap HWANT.out (by simp))
              have hlb := pad16_len data
              have hwlo := hrel.lo
              have hwhi := hrel.hi
              generalize pad16 data = PB at *
              cases hdd : D.down
              · have e1 : D.writes < k := writes_lt hrel.left hrel.down hdd hrel.hi
                have e2 : decide (D.writes < k) = true := by simpa using e1
                have HDD := Lib.hid hdd
                have hrange : ∀ w6, Fr [w.heap.size + 1, w.heap.size] wc w6 → w6.rangeAt wo.heap.size 0 (PB.map u8v) := fun w6 hf j v hv => by
                  refine hf.cell ?_ (by simp; omega)
                  have := hcb j v hv; rwa [add_lit] at this
                clear hdd
                go_wp2_with fail
                refine (write_i hdr nn hn0 (by omega) HDD.out _ _ PB hcb hlb).mono ?_
                rintro e w6 ⟨rfl, hd6, hfr6⟩
                have HW6 := Lib.hid (hfr6.heap HW2.out (by simp; omega))
                have hnat : nn.toNat < 8 := by omega
                have hbl6 : (D.bytes.map u8v).length = 128 := by rw [List.length_map, hdr.len]; omega
                have hthere : w6.there w2.heap.size (nn.toNat * 16) (PB.map u8v).toArray.size := fun j hj => by
                  simp [hlb] at hj
                  rw [blk_cell HW6.out, blk_free HW6.out]
                  refine ⟨?_, rfl⟩
                  rw [List.getElem?_toArray, List.getElem?_eq_getElem (by omega)]; rfl
                have hone : (PB.map u8v).toArray.all (·.oneCell') = true := all_oneCell_toArray (u8v_one PB)
                have hinf : (Try.prog.info? 28).map (·.size) = some (PB.map u8v).toArray.size := by rw [blk_info]; simp [hlb]
                have hinf2 : (Try.prog.info? 28).map (·.size) = some (PB.map u8v).length := by rw [blk_info]; simp [hlb]
                go_wp2_with (first | ((with_reducible show wpList _ _ _ (Oper.mk (some 106) _ _ _ _ _ :: _) _ _); refine wpList_load_mid rfl 28 (.tmp 11) rfl wo.heap.size 0 rfl (PB.map u8v) _ (hrange _ hfr6) Try.underlying28 rfl hinf2 ?_) | ((with_reducible show wpList _ _ _ (Oper.mk none (Op.store 28 _ _) _ _ _ _ :: _) _ _); refine wpList_store_mid rfl 28 (.tmp 107) (.tmp 106) rfl w2.heap.size (nn.toNat * 16) (PB.map u8v).toArray rfl rfl hthere hinf hone ?_))
                go_roundg (ops.length - (j + 1))
                case rel => exact ⟨j + 1, D.write nn.toNat PB, by omega, rfl, by go_num, by rw [write_writes hrel HDD.out hwlo (by omega)], keeps_next hrel HDD.out e1 k1 hnat hlb hne1 (by omega) (by omega) hfo hd6 hfr6 HW2.out⟩
                case measure => omega
              · have e1 : D.writes = k := writes_eq hrel.left hrel.down hdd
                have e2 : decide (D.writes < k) = false := by rw [e1]; simp
                have HE1 := Lib.hid e1
                have hbe : D.blockErr nn = 50 := by rw [blockErr_in hn0 (by omega), hdd]; rfl
                have HBE := Lib.hid hbe
                clear hdd e1 hbe
                go_wp2_with fail
                refine (write_down hdr nn HBE.out _ _).mono ?_
                rintro e w6 ⟨rfl, rfl⟩
                go_wp2_with fail
                go_roundg (ops.length - (j + 1))
                case rel => exact ⟨j + 1, D, by omega, rfl, by go_num, rfl, hrel.fr hfo⟩
                case measure => omega
        · have hg : (j < ops.length ∧ ¬ (j : Int) < 200) ∨ ¬ j < ops.length := by omega
          have HREL := Lib.hid hrel
          rcases hg with ⟨hg1, hg2⟩ | hg1
          · have g2 : decide ((j : Int) < 200) = false := by simpa using hg2
            go_wp2_with fail
            go_meet
            exact ⟨D, rfl, HREL.out⟩
          · go_wp2_with fail
            go_meet
            exact ⟨D, rfl, HREL.out⟩
    case rest =>
      obtain ⟨D, rfl, hrel⟩ := hcut
      have hd := hrel.disk
      have hwlo := hrel.lo
      have hwhi := hrel.hi
      have hdown : D.down = !decide (D.writes < k) := by
        cases hdd : D.down
        · have e1 : D.writes < k := writes_lt hrel.left hrel.down hdd hrel.hi
          simp [e1]
        · have e1 : D.writes = k := writes_eq hrel.left hrel.down hdd
          simp [e1]
      have HREL := Lib.hid hrel
      have HDOWN := Lib.hid hdown
      clear hrel hrel0 hdown
      go_wp2_with fail
      refine (power_any hd).mono ?_
      rintro e w3 ⟨he, rfl⟩
      rw [HDOWN.out, Bool.not_not] at he
      subst he
      go_wp2_with fail
      refine (writes_any hd).mono ?_
      rintro e w3 ⟨rfl, rfl⟩
      go_wp2_with fail
      refine (restart_any hd).mono ?_
      rintro e w3 ⟨rfl, hd3, hfr3⟩
      have hbl3 := HREL.out.below.trans (hfr3.below HREL.out.below.size (by simp))
      have hw3 := hfr3.heap HREL.out.want (by simp; omega)
      have hn8 : D.n = 8 := HREL.out.n
      have HN8 := Lib.hid hn8
      have hl8 : D.bytes.length = 128 := by rw [hd.len, hn8]
      have HL8 := Lib.hid hl8
      clear hl8 hn8 hd hfr3
      go_wp2_with fail
      go_loopg [15] 8 (fun left s15 wr => ∃ m : Nat, m ≤ 8 ∧ left = 8 - m ∧ s15 = .int .i64 m ∧ IsDisk wr (w.heap.size + 1) w.heap.size { D with down := false, fused := false } ∧ wr.heap[w2.heap.size]? = some (.cells (D.bytes.map u8v).toArray 29 (0, 0)) ∧ Below w.heap.size w wr)
      case atStart => exact ⟨0, by omega, rfl, rfl, hd3, hw3, hbl3⟩
      case round =>
        obtain ⟨m, hm, rfl, rfl, hd5, hw5, hbl5⟩ := hrel
        clear hd3 hw3 hbl3
        by_cases hm8 : m < 8
        · have g1 : decide ((m : Int) < 8) = true := by simp; omega
          have HW5 := Lib.hid hw5
          clear hw5
          go_wp2_with fail
          refine (read_ok hd5 m (by show m < D.n; rw [HN8.out]; exact hm8) rfl).mono ?_
          rintro e w6 ⟨g', cap', rest, rfl, q1, q2, q3, q4, hfr6⟩
          have hcat : (Dk.at { D with down := false, fused := false } m) = D.at m := rfl
          rw [hcat] at q2 q3
          have hal : (D.at m).length = 16 := Dk.at_len (by rw [HL8.out, HN8.out]) (by rw [HN8.out]; exact hm8)
          have c1 : ∀ nq, (convert 31 9 (.slice (some ⟨g', 0, none⟩) 16 cap')).run Try.prog (w6.drewN nq) = .ok (.string ⟨(D.at m).toArray⟩) (w6.drewN nq) := fun nq => conv_u8 (w := w6.drewN nq) (cells_append (w := w6.drewN nq) q2) 16 cap' hal
          have c2 : ∀ nq, (convert 31 9 (.slice (some ⟨w2.heap.size, m * 16, none⟩) 16 16)).run Try.prog (w6.drewN nq) = .ok (.string ⟨(D.at m).toArray⟩) (w6.drewN nq) := fun nq => conv_u8 (w := w6.drewN nq) (by
            have h1 : Cells (w6.drewN nq) ⟨w2.heap.size, 0, none⟩ (D.bytes.map u8v) := Cells.of_blk (w := w6.drewN nq) (hfr6.heap HW5.out (by simp)) 0 _ (fun j v hv => by simpa using hv)
            have h2 := h1.sub (16 * m) 16
            rw [show m * 16 = 0 + 16 * m by omega]
            simpa [Dk.at, List.map_take, List.map_drop] using h2) 16 16 hal
          have HD6 := hd5.fr hfr6 (by simp) (by simp)
          have HW6 := Lib.hid (hfr6.heap HW5.out (by simp))
          have HB6 := Lib.hid (hbl5.trans (hfr6.below hbl5.size (by simp)))
          clear hcat q2 q3 q4 q1 hal
          generalize (⟨(D.at m).toArray⟩ : ByteArray) = S at c1 c2
          go_wp2_with fail
          go_quiet (fail)
          go_wp2_with fail
          go_roundg (8 - (m + 1))
          case rel => exact ⟨m + 1, by omega, rfl, by go_num, HD6.fr ((Fr.refl [] w6).drewN _) (by simp) (by simp), HW6.out, HB6.out.trans ((Fr.refl [] w6).drewN _ |>.below HB6.out.size (by simp))⟩
          case measure => omega
        · have HB6 := Lib.hid hbl5
          clear hbl5
          go_wp2_with fail
          refine (power_any hd5).mono ?_
          rintro e w3 ⟨rfl, rfl⟩
          go_wp2_with fail
          go_ret
          exact ⟨rfl, HB6.out⟩
end Go.Proofs.Ytmdmdjolfahjbaa
