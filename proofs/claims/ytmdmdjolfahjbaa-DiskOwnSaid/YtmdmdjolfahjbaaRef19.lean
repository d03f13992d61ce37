/- The contracts of the reference of layer 19: what each function of its disk computes, over a plain record. -/
import Derived.Test.YtmdmdjolfahjbaaDisk2
import Derived.Test.YtmdmdjolfahjbaaArgs
import Derived.StillTailTactics
import Derived.Deep.LoopGhost
namespace Go.Proofs.Ytmdmdjolfahjbaa
open Go.RowKit

structure Rk where
  n : Nat
  bytes : List UInt8
  count : Int
  left : Int

structure IsRef (w : World) (g bb cap : Nat) (rest : List Value) (R : Rk) : Prop where
  obj : w.heap[g]? = some (.cells #[.slice (some ⟨bb, 0, none⟩) (16 * R.n) cap, .int .i64 R.count, .int .i64 R.left] 56 (0, 0))
  row : w.heap[bb]? = some (.cells (R.bytes.map u8v ++ rest).toArray 5 (0, 0))
  len : R.bytes.length = 16 * R.n
  lo : 1 ≤ R.n
  hi : R.n ≤ 65536
  capLe : 16 * R.n ≤ cap
  hcap : (R.bytes.map u8v ++ rest).length = cap

theorem IsRef.sizes {w : World} {g bb cap : Nat} {rest : List Value} {R : Rk} (h : IsRef w g bb cap rest R) : g < w.heap.size ∧ bb < w.heap.size := ⟨lt_of_heap h.obj, lt_of_heap h.row⟩
theorem IsRef.ne {w : World} {g bb cap : Nat} {rest : List Value} {R : Rk} (h : IsRef w g bb cap rest R) : g ≠ bb := by
  rintro rfl
  have := h.obj.symm.trans h.row
  simp at this
theorem IsRef.fr {S : List Nat} {w w' : World} {g bb cap : Nat} {rest : List Value} {R : Rk} (h : IsRef w g bb cap rest R) (hf : Fr S w w') (hg : g ∉ S) (hb : bb ∉ S) : IsRef w' g bb cap rest R :=
  ⟨hf.heap h.obj hg, hf.heap h.row hb, h.len, h.lo, h.hi, h.capLe, h.hcap⟩
section
variable {w : World} {g bb cap : Nat} {rest : List Value} {R : Rk}
theorem IsRef.c0 (h : IsRef w g bb cap rest R) : w.cell? ⟨g, 0, none⟩ = some (.slice (some ⟨bb, 0, none⟩) (16 * R.n) cap) := blk_cell' h.obj rfl
theorem IsRef.c1 (h : IsRef w g bb cap rest R) : w.cell? ⟨g, 1, none⟩ = some (.int .i64 R.count) := blk_cell' h.obj rfl
theorem IsRef.c2 (h : IsRef w g bb cap rest R) : w.cell? ⟨g, 2, none⟩ = some (.int .i64 R.left) := blk_cell' h.obj rfl
theorem IsRef.f (h : IsRef w g bb cap rest R) (i : Nat) : w.frozen? ⟨g, i, none⟩ = false := blk_free h.obj i
theorem IsRef.set1 (h : IsRef w g bb cap rest R) (x : Int) : IsRef (w.setCell ⟨g, 1, none⟩ (.int .i64 x)) g bb cap rest { R with count := x } :=
  ⟨blk_set h.obj 1 _, blk_far h.row h.ne.symm _, h.len, h.lo, h.hi, h.capLe, h.hcap⟩
theorem IsRef.set2 (h : IsRef w g bb cap rest R) (x : Int) : IsRef (w.setCell ⟨g, 2, none⟩ (.int .i64 x)) g bb cap rest { R with left := x } :=
  ⟨blk_set h.obj 2 _, blk_far h.row h.ne.symm _, h.len, h.lo, h.hi, h.capLe, h.hcap⟩
theorem IsRef.setB (h : IsRef w g bb cap rest R) (i : Nat) (hi : i < 16 * R.n) (x : UInt8) : IsRef (w.setCell ⟨bb, i, none⟩ (u8v x)) g bb cap rest { R with bytes := R.bytes.set i x } := by
  have hl := h.len
  refine ⟨blk_far h.obj h.ne _, ?_, by simp [hl], h.lo, h.hi, h.capLe, by simpa using h.hcap⟩
  rw [blk_set h.row, List.setIfInBounds_toArray, List.set_append_left _ _ (by simp; omega), List.map_set]
theorem IsRef.cells (h : IsRef w g bb cap rest R) : Cells w ⟨bb, 0, none⟩ (R.bytes.map u8v) := cells_append h.row
theorem IsRef.cellAt (h : IsRef w g bb cap rest R) (i : Nat) (hi : i < 16 * R.n) : w.cell? ⟨bb, i, none⟩ = some (u8v (R.bytes[i]'(by rw [h.len]; exact hi))) := by
  have := h.cells.lit i (u8v (R.bytes[i]'(by rw [h.len]; exact hi))) (by simp [h.len, hi])
  simpa using this
end

def Rk.new (n : Nat) : Rk := ⟨n, List.replicate (16 * n) 0, 0, -1⟩
def Rk.load (l : List UInt8) : Rk := ⟨l.length / 16, l, 0, -1⟩

theorem rnew_bad (n : Int) (w : World) (h : n < 1 ∨ 65536 < n) : Calls Try.prog 19 #[.int .i64 n] w fun e w' => e = .returned (.tuple #[.pointer none, .int .i64 1]) ∧ w = w' := by
  rcases h with h | h
  · go_enter Try.func19, Try.ntmps19
    go_wp2
    go_ret2
    exact ⟨rfl, rfl⟩
  · have h1 : ¬ n < 1 := by omega
    go_enter Try.func19, Try.ntmps19
    go_wp2
    go_ret2
    exact ⟨rfl, rfl⟩

theorem rnew_ok (n : Int) (w : World) (h : 1 ≤ n) (h2 : n ≤ 65536) : Calls Try.prog 19 #[.int .i64 n] w fun e w' => e = .returned (.tuple #[.pointer (some ⟨w.heap.size + 1, 0, none⟩), .int .i64 0]) ∧
    IsRef w' (w.heap.size + 1) w.heap.size (16 * n.toNat) [] (Rk.new n.toNat) ∧ Fr [] w w' := by
  have h1 : ¬ n < 1 := by omega
  have h3 : ¬ 65536 < n := by omega
  have hm := mk_u8 (n * 16) (by omega) (by omega)
  go_enter Try.func19, Try.ntmps19
  go_wp2
  go_ret2
  refine ⟨rfl, ?_, ((Fr.refl _ _).alloc _).alloc _⟩
  have e : (n * 16).toNat = 16 * n.toNat := by omega
  refine ⟨?_, ?_, by simp [Rk.new], by simp [Rk.new]; omega, by simp [Rk.new]; omega, by simp [Rk.new], by simp [Rk.new]⟩
  · have h9 := heap_new (w.alloc (.cells (List.replicate (n * 16).toNat (u8v 0)).toArray 5))
    rw [World.size_alloc] at h9
    simp only [List.toArray_replicate] at h9
    rw [h9, e]; simp [Rk.new]
  · rw [heap_old _ _ _ (by simp), heap_new, e]; simp [Rk.new]

theorem rblocks_any {w : World} {g bb cap : Nat} {rest : List Value} {R : Rk} (h : IsRef w g bb cap rest R) : Calls Try.prog 23 #[.pointer (some ⟨g, 0, none⟩)] w fun e w' => e = .returned (.int .i64 R.n) ∧ w = w' := by
  have h0 := h.c0
  have h1 := h.hi
  clear h
  go_enter Try.func23, Try.ntmps23
  go_wp2
  go_ret
  exact ⟨by congr 2, rfl⟩

theorem rpower_any {w : World} {g bb cap : Nat} {rest : List Value} {R : Rk} (h : IsRef w g bb cap rest R) : Calls Try.prog 33 #[.pointer (some ⟨g, 0, none⟩)] w fun e w' => e = .returned (.bool (R.left != 0)) ∧ w = w' := by
  have h0 := h.c2
  clear h
  go_enter Try.func33, Try.ntmps33
  go_wp2
  go_ret
  exact ⟨rfl, rfl⟩

theorem rrestart_any {w : World} {g bb cap : Nat} {rest : List Value} {R : Rk} (h : IsRef w g bb cap rest R) : Calls Try.prog 35 #[.pointer (some ⟨g, 0, none⟩)] w fun e w' =>
    e = .returned (.tuple #[]) ∧ IsRef w' g bb cap rest { R with left := -1 } ∧ Fr [g] w w' := by
  have h2 := h.c2
  have f2 := h.f 2
  go_enter Try.func35, Try.ntmps35
  go_wp2
  go_end0
  exact ⟨rfl, h.set2 (-1), (Fr.refl _ _).set (by simp) _⟩

def Rk.fuse (R : Rk) (k : Int) : Rk := if R.left = 0 then R else { R with left := if k < 0 then -1 else k }

theorem rfuse_any {w : World} {g bb cap : Nat} {rest : List Value} {R : Rk} (h : IsRef w g bb cap rest R) (k : Int) : Calls Try.prog 34 #[.pointer (some ⟨g, 0, none⟩), .int .i64 k] w fun e w' =>
    e = .returned (.tuple #[]) ∧ IsRef w' g bb cap rest (R.fuse k) ∧ Fr [g] w w' := by
  have h2 := h.c2
  have f2 := h.f 2
  by_cases hl : R.left = 0
  · have e1 : R.fuse k = R := by simp [Rk.fuse, hl]
    have hb : (R.left == 0) = true := by simp [hl]
    rw [e1]
    clear hl e1
    go_enter Try.func34, Try.ntmps34
    go_wp2
    refine bodyPost_ret (results_none rfl _ _ _) rfl ?_
    exact ⟨rfl, h, Fr.refl _ _⟩
  · have hb : (R.left == 0) = false := by simp [hl]
    by_cases hk : k < 0
    · have e1 : R.fuse k = { R with left := -1 } := by simp [Rk.fuse, hl, hk]
      rw [e1]
      clear hl e1
      go_enter Try.func34, Try.ntmps34
      go_wp2
      go_end0
      exact ⟨rfl, h.set2 (-1), (Fr.refl _ _).set (by simp) _⟩
    · have e1 : R.fuse k = { R with left := k } := by simp [Rk.fuse, hl, hk]
      rw [e1]
      clear hl e1
      go_enter Try.func34, Try.ntmps34
      go_wp2
      go_end0
      exact ⟨rfl, h.set2 k, (Fr.refl _ _).set (by simp) _⟩

def Rk.err (R : Rk) (i : Int) (n : Nat) : Int := if i < 0 ∨ (R.n : Int) ≤ i ∨ n ≠ 16 then 1 else if R.left = 0 then 50 else 0

theorem rread_bad {w : World} {g bb cap : Nat} {rest : List Value} {R : Rk} (h : IsRef w g bb cap rest R) (i : Int) (hi : R.err i 16 ≠ 0) : Calls Try.prog 31 #[.pointer (some ⟨g, 0, none⟩), .int .i64 i] w fun e w' =>
    e = .returned (.tuple #[.slice none 0 0, .int .i64 (R.err i 16)]) ∧ w = w' := by
  have h2 := h.c2
  by_cases c1 : i < 0
  · have e1 : R.err i 16 = 1 := by simp [Rk.err, c1]
    rw [e1]
    go_enter Try.func31, Try.ntmps31
    go_wp2_with fail
    go_ret2
    exact ⟨rfl, rfl⟩
  · by_cases c2 : (R.n : Int) ≤ i
    · have e1 : R.err i 16 = 1 := by simp [Rk.err, c2]
      rw [e1]
      go_enter Try.func31, Try.ntmps31
      go_wp2_with fail
      refine (rblocks_any h).mono ?_
      rintro e w' ⟨rfl, rfl⟩
      go_wp2_with fail
      go_ret2
      exact ⟨rfl, rfl⟩
    · by_cases hl : R.left = 0
      · have e1 : R.err i 16 = 50 := by simp [Rk.err, c1, c2, hl]
        have hb : (R.left == 0) = true := by simp [hl]
        rw [e1]
        clear hl e1 hi
        go_enter Try.func31, Try.ntmps31
        go_wp2_with fail
        refine (rblocks_any h).mono ?_
        rintro e w' ⟨rfl, rfl⟩
        go_wp2_with fail
        go_ret2
        exact ⟨rfl, rfl⟩
      · exact absurd (by simp [Rk.err, c1, c2, hl]) hi

def Rk.at (R : Rk) (i : Nat) : List UInt8 := (R.bytes.drop (16 * i)).take 16
theorem Rk.at_len {R : Rk} (hl : R.bytes.length = 16 * R.n) {i : Nat} (hi : i < R.n) : (R.at i).length = 16 := by
  simp [Rk.at]; omega
theorem IsRef.at {w : World} {g bb cap : Nat} {rest : List Value} {R : Rk} (h : IsRef w g bb cap rest R) (i : Nat) : Cells w ⟨bb, i * 16, none⟩ ((R.at i).map u8v) := by
  have h2 := h.cells.sub (16 * i) 16
  rw [show i * 16 = 0 + 16 * i by omega]
  simpa [Rk.at, List.map_take, List.map_drop] using h2

theorem rread_ok {w : World} {g bb cap : Nat} {rest : List Value} {R : Rk} (h : IsRef w g bb cap rest R) (i : Nat) (hi : i < R.n) (hl : R.left ≠ 0) :
    Calls Try.prog 31 #[.pointer (some ⟨g, 0, none⟩), .int .i64 i] w fun e w' =>
    ∃ g' cap' rest', e = .returned (.tuple #[.slice (some ⟨g', 0, none⟩) 16 cap', .int .i64 0]) ∧ w.heap.size ≤ g' ∧ w'.heap[g']? = some (.cells ((R.at i).map u8v ++ rest').toArray 5 (0, 0)) ∧ ((R.at i).map u8v ++ rest').length = cap' ∧ cap' ≤ maxLen ∧ Fr [] w w' := by
  have h0 := h.c0
  have h2 := h.c2
  have hb : (R.left == 0) = false := by simp [hl]
  have hhi := h.hi
  have hc := h.capLe
  obtain ⟨ii, hi', hz0, hz1, hz2⟩ := info_parts Try.infoU8
  have hal := Rk.at_len h.len hi
  have hcs : Cells (w.alloc (.cells #[] 5)) ⟨bb, i * 16, none⟩ ((R.at i).map u8v) := (h.at i).fr ((Fr.refl [] w).alloc _) (by simp)
  have hown : (w.alloc (.cells #[] 5)).ownsRow w.heap.size 5 1 (.slice (some ⟨w.heap.size, 0, none⟩) 0 0) 0 [] :=
    World.ownsRow_made w #[] 0 (Nat.le_refl _) (by simp) (by simp)
  have hsz := h.sizes
  clear hl
  have c1 : ¬ (i : Int) < 0 := by omega
  have c2 : ¬ (R.n : Int) ≤ i := by omega
  go_enter Try.func31, Try.ntmps31
  go_wp2_with fail
  refine (rblocks_any h).mono ?_
  rintro e w' ⟨rfl, rfl⟩
  go_wp2_with (at_builtin; refine wpList_append_own _ rfl _ _ 31 rfl w.heap.size 5 ii (.int .u8 0) 1 1 Try.underlying31 hi' hz0 hz1 hz2 rfl (by decide) _ _ _ rfl hown ⟨bb, i * 16, none⟩ _ _ ((R.at i).map u8v) rfl ?_ hcs (u8v_one _) ?_ ?_ ?_ ?_)
  · simp [hal]
  · simp [maxLen]
  · omega
  · simp
  · intro v w1 ho hg hne
    go_wp2
    go_ret2
    obtain ⟨g', cap', rest', rfl, q1, q2, _, q4, q5⟩ := own_open ho hne
    exact ⟨g', cap', rest', rfl, q1, q2, q4, q5, ((Fr.refl _ _).alloc _).grown hg (by simp [Value.ownBlock])⟩

theorem rload_bad (w : World) (sp : Option Addr) (n cap : Nat) (hn : n ≤ 140737488355328) (h : n = 0 ∨ n % 16 ≠ 0 ∨ 65536 < n / 16) :
    Calls Try.prog 20 #[.slice sp n cap] w fun e w' => e = .returned (.tuple #[.pointer none, .int .i64 1]) ∧ w = w' := by
  by_cases h1 : n = 0
  · subst h1
    go_enter Try.func20, Try.ntmps20
    go_wp2
    go_ret2
    exact ⟨rfl, rfl⟩
  · have g1 : ((n : Int) == 0) = false := by simp; omega
    by_cases h2 : n % 16 ≠ 0
    · have g2 : ((n : Int) % 16 != 0) = true := by simp; omega
      go_enter Try.func20, Try.ntmps20
      go_wp2
      go_ret2
      exact ⟨rfl, rfl⟩
    · have g2 : ((n : Int) % 16 != 0) = false := by simp; omega
      have g3 : 65536 < (n : Int) / 16 := by omega
      clear h1 h2 h
      go_enter Try.func20, Try.ntmps20
      go_wp2
      go_ret2
      exact ⟨rfl, rfl⟩

theorem rload_ok (w : World) (ad : Addr) (cap : Nat) (l : List UInt8) (hl : Cells w ad (l.map u8v)) (h0 : l ≠ []) (h1 : l.length % 16 = 0) (h2 : l.length / 16 ≤ 65536) :
    Calls Try.prog 20 #[.slice (some ad) l.length cap] w fun e w' =>
    ∃ g bb cap' rest, e = .returned (.tuple #[.pointer (some ⟨g, 0, none⟩), .int .i64 0]) ∧ IsRef w' g bb cap' rest (Rk.load l) ∧ w.heap.size ≤ g ∧ w.heap.size ≤ bb ∧ Fr [] w w' := by
  have h00 : 0 < l.length := List.length_pos_iff.2 h0
  have g1 : ((l.length : Int) == 0) = false := by simp; omega
  have g2 : ((l.length : Int) % 16 != 0) = false := by simp; omega
  have g3 : (l.length : Int) / 16 ≤ 65536 := by omega
  obtain ⟨ii, hi', hz0, hz1, hz2⟩ := info_parts Try.infoU8
  have hcs : Cells (w.alloc (.cells #[] 5)) ad (l.map u8v) := hl.fr ((Fr.refl [] w).alloc _) (by simp)
  have hown : (w.alloc (.cells #[] 5)).ownsRow w.heap.size 5 1 (.slice (some ⟨w.heap.size, 0, none⟩) 0 0) 0 [] :=
    World.ownsRow_made w #[] 0 (Nat.le_refl _) (by simp) (by simp)
  have H1 := Lib.hid h1
  clear h1
  go_enter Try.func20, Try.ntmps20
  go_wp2_with (at_builtin; refine wpList_append_own _ rfl _ _ 31 rfl w.heap.size 5 ii (.int .u8 0) 1 1 Try.underlying31 hi' hz0 hz1 hz2 rfl (by decide) _ _ _ rfl hown ad l.length cap (l.map u8v) rfl ?_ hcs (u8v_one _) ?_ ?_ ?_ ?_)
  · simp
  · simp [maxLen]; omega
  · omega
  · simp
  · intro v w1 ho hg hne
    obtain ⟨bb, cap', rest', hv, q1, q2, q3, q4, q5⟩ := own_open ho hne
    have hF := (((Fr.refl [] w).alloc (.cells #[] 5)).grown hg (by simp [Value.ownBlock]))
    clear ho hg hne
    subst hv
    go_wp2
    go_ret2
    refine ⟨w1.heap.size, bb, cap', rest', rfl, ⟨?_, blk_alloc q2 _, ?_, ?_, ?_, ?_, q4⟩, hF.size, q1, hF.alloc _⟩
    · rw [heap_new]
      have e : 16 * (l.length / 16) = l.length := by have := H1.out; omega
      simp [Rk.load, e]
    · have := H1.out; simp [Rk.load]; omega
    · have := H1.out; simp [Rk.load]; omega
    · simp [Rk.load]; omega
    · have := H1.out; rw [← q4]; simp [Rk.load]; omega

/-- few: at most two thousand bytes, in new memory. -/
theorem few_any (w : World) (v : Value) (l : List UInt8) (h : RdSl 1 RdU8 w v l) :
    Calls Try.prog 14 #[v] w fun e w' =>
    ∃ g cap rest, e = .returned (.slice (some ⟨g, 0, none⟩) (l.take 2000).length cap) ∧ w.heap.size ≤ g ∧ w'.heap[g]? = some (.cells ((l.take 2000).map u8v ++ rest).toArray 5 (0, 0)) ∧ ((l.take 2000).map u8v ++ rest).length = cap ∧ cap ≤ maxLen ∧ Fr [] w w' := by
  obtain ⟨sp, cap0, rfl, hc, hm, hsp⟩ := rd_bytes h
  obtain ⟨ii, hi', hz0, hz1, hz2⟩ := info_parts Try.infoU8
  have hown : (w.alloc (.cells #[] 5)).ownsRow w.heap.size 5 1 (.slice (some ⟨w.heap.size, 0, none⟩) 0 0) 0 [] :=
    World.ownsRow_made w #[] 0 (Nat.le_refl _) (by simp) (by simp)
  have hm2 : l.length ≤ 9223372036854775807 := by unfold maxLen at hm; omega
  rcases hsp with rfl | ⟨b, o, rfl, hb, hcells⟩
  · go_enter Try.func14, Try.ntmps14
    cases sp with
    | none =>
      go_wp2
      go_ret
      exact ⟨w.heap.size, 0, [], rfl, Nat.le_refl _, heap_new _ _, rfl, by simp, (Fr.refl _ _).alloc _⟩
    | some ad =>
      go_wp2
      go_ret
      exact ⟨w.heap.size, 0, [], rfl, Nat.le_refl _, heap_new _ _, rfl, by simp, (Fr.refl _ _).alloc _⟩
  · have hcs : Cells (w.alloc (.cells #[] 5)) ⟨b, o, none⟩ (l.map u8v) := hcells.fr ((Fr.refl [] w).alloc _) (by simp)
    by_cases hbig : 2000 < l.length
    · have hcs2 : Cells (w.alloc (.cells #[] 5)) ⟨b, o, none⟩ ((l.take 2000).map u8v) := by
        have := hcs.sub 0 2000
        simpa [List.map_take] using this
      have hlt : (l.take 2000).length = 2000 := by simp; omega
      have g1 : decide ((2000 : Int) < l.length) = true := by simp; omega
      rw [hlt]
      generalize l.take 2000 = L at *
      go_enter Try.func14, Try.ntmps14
      go_wp2_with (at_builtin; refine wpList_append_own _ rfl _ _ 31 rfl w.heap.size 5 ii (.int .u8 0) 1 1 Try.underlying31 hi' hz0 hz1 hz2 rfl (by decide) _ _ _ rfl hown ⟨b, o, none⟩ 2000 cap0 (L.map u8v) rfl ?_ hcs2 (u8v_one _) ?_ ?_ ?_ ?_)
      · simp [hlt]
      · simp [maxLen]
      · omega
      · simp
      · intro v w1 ho hg hne
        go_wp2
        go_ret
        obtain ⟨g', cap', rest', rfl, q1, q2, _, q4, q5⟩ := own_open ho hne
        exact ⟨g', cap', rest', rfl, q1, q2, q4, q5, ((Fr.refl _ _).alloc _).grown hg (by simp [Value.ownBlock])⟩
    · have hlt : l.take 2000 = l := List.take_of_length_le (by omega)
      have g1 : decide ((2000 : Int) < l.length) = false := by simp; omega
      rw [hlt]
      go_enter Try.func14, Try.ntmps14
      go_wp2_with (at_builtin; refine wpList_append_own _ rfl _ _ 31 rfl w.heap.size 5 ii (.int .u8 0) 1 1 Try.underlying31 hi' hz0 hz1 hz2 rfl (by decide) _ _ _ rfl hown ⟨b, o, none⟩ l.length cap0 (l.map u8v) rfl ?_ hcs (u8v_one _) ?_ ?_ ?_ ?_)
      · simp
      · simp [maxLen]; omega
      · omega
      · simp
      · intro v w1 ho hg hne
        go_wp2
        go_ret
        obtain ⟨g', cap', rest', rfl, q1, q2, _, q4, q5⟩ := own_open ho hne
        exact ⟨g', cap', rest', rfl, q1, q2, q4, q5, ((Fr.refl _ _).alloc _).grown hg (by simp [Value.ownBlock])⟩
end Go.Proofs.Ytmdmdjolfahjbaa
