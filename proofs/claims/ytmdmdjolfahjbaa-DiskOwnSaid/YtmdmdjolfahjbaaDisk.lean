/- The contracts of package disk: what each function of a disk computes, over a plain record. -/
import Derived.Test.YtmdmdjolfahjbaaProg
import Derived.Test.YtmdmdjolfahjbaaLib
namespace Go.Proofs.Ytmdmdjolfahjbaa
open Go.RowKit

structure Dk where
  n : Nat
  bytes : List UInt8
  writes : Int
  down : Bool
  fused : Bool
  left : Int

def Dk.cells (bb : Nat) (D : Dk) : Array Value := #[.slice (some ⟨bb, 0, none⟩) (16 * D.n) (16 * D.n), .int .i64 D.writes, .bool D.down, .bool D.fused, .int .i64 D.left]

structure IsDisk (w : World) (g bb : Nat) (D : Dk) : Prop where
  obj : w.heap[g]? = some (.cells (D.cells bb) 59 (0, 0))
  row : w.heap[bb]? = some (.cells (D.bytes.map u8v).toArray 5 (0, 0))
  len : D.bytes.length = 16 * D.n
  lo : 1 ≤ D.n
  hi : D.n ≤ 65536

theorem IsDisk.ne {w : World} {g bb : Nat} {D : Dk} (h : IsDisk w g bb D) : g ≠ bb := by
  rintro rfl
  have := h.obj.symm.trans h.row
  simp at this
theorem IsDisk.sizes {w : World} {g bb : Nat} {D : Dk} (h : IsDisk w g bb D) : g < w.heap.size ∧ bb < w.heap.size := ⟨lt_of_heap h.obj, lt_of_heap h.row⟩
theorem IsDisk.fr {S : List Nat} {w w' : World} {g bb : Nat} {D : Dk} (h : IsDisk w g bb D) (hf : Fr S w w') (hg : g ∉ S) (hb : bb ∉ S) : IsDisk w' g bb D :=
  ⟨hf.heap h.obj hg, hf.heap h.row hb, h.len, h.lo, h.hi⟩
theorem IsDisk.c0 {w : World} {g bb : Nat} {D : Dk} (h : IsDisk w g bb D) : w.cell? ⟨g, 0, none⟩ = some (.slice (some ⟨bb, 0, none⟩) (16 * D.n) (16 * D.n)) := blk_cell' h.obj rfl
theorem IsDisk.c1 {w : World} {g bb : Nat} {D : Dk} (h : IsDisk w g bb D) : w.cell? ⟨g, 1, none⟩ = some (.int .i64 D.writes) := blk_cell' h.obj rfl
theorem IsDisk.c2 {w : World} {g bb : Nat} {D : Dk} (h : IsDisk w g bb D) : w.cell? ⟨g, 2, none⟩ = some (.bool D.down) := blk_cell' h.obj rfl
theorem IsDisk.c3 {w : World} {g bb : Nat} {D : Dk} (h : IsDisk w g bb D) : w.cell? ⟨g, 3, none⟩ = some (.bool D.fused) := blk_cell' h.obj rfl
theorem IsDisk.c4 {w : World} {g bb : Nat} {D : Dk} (h : IsDisk w g bb D) : w.cell? ⟨g, 4, none⟩ = some (.int .i64 D.left) := blk_cell' h.obj rfl
theorem IsDisk.f {w : World} {g bb : Nat} {D : Dk} (h : IsDisk w g bb D) (i : Nat) : w.frozen? ⟨g, i, none⟩ = false := blk_free h.obj i
theorem IsDisk.set1 {w : World} {g bb : Nat} {D : Dk} (h : IsDisk w g bb D) (x : Int) : IsDisk (w.setCell ⟨g, 1, none⟩ (.int .i64 x)) g bb { D with writes := x } :=
  ⟨blk_set h.obj 1 _, blk_far h.row h.ne.symm _, h.len, h.lo, h.hi⟩
theorem IsDisk.set2 {w : World} {g bb : Nat} {D : Dk} (h : IsDisk w g bb D) (x : Bool) : IsDisk (w.setCell ⟨g, 2, none⟩ (.bool x)) g bb { D with down := x } :=
  ⟨blk_set h.obj 2 _, blk_far h.row h.ne.symm _, h.len, h.lo, h.hi⟩
theorem IsDisk.set3 {w : World} {g bb : Nat} {D : Dk} (h : IsDisk w g bb D) (x : Bool) : IsDisk (w.setCell ⟨g, 3, none⟩ (.bool x)) g bb { D with fused := x } :=
  ⟨blk_set h.obj 3 _, blk_far h.row h.ne.symm _, h.len, h.lo, h.hi⟩
theorem IsDisk.set4 {w : World} {g bb : Nat} {D : Dk} (h : IsDisk w g bb D) (x : Int) : IsDisk (w.setCell ⟨g, 4, none⟩ (.int .i64 x)) g bb { D with left := x } :=
  ⟨blk_set h.obj 4 _, blk_far h.row h.ne.symm _, h.len, h.lo, h.hi⟩
theorem IsDisk.setRow {w : World} {g bb : Nat} {D : Dk} (h : IsDisk w g bb D) (l : List UInt8) (hl : l.length = 16 * D.n) : IsDisk (w.setRow bb (l.map u8v).toArray) g bb { D with bytes := l } :=
  ⟨by rw [setRow_other _ _ _ _ h.ne]; exact h.obj, setRow_heap _ _ _ _ _ _ h.row, hl, h.lo, h.hi⟩

def Dk.new (n : Nat) : Dk := ⟨n, List.replicate (16 * n) 0, 0, false, false, 0⟩

theorem Try.infoU8 : (Try.prog.info? 5).map (fun i => (i.zero, i.size, i.bytes)) = some (some (.int .u8 0), 1, 1) := by kernel_rfl

theorem mk_u8 (n : Int) (h0 : 0 ≤ n) (h : n ≤ 281474976710656) (w : World) : (Instr.makeSlice 31 (.int .i64 n) (.int .i64 n)).run Try.prog w = .ok (.slice (some ⟨w.heap.size, 0, none⟩) n.toNat n.toNat) (w.alloc (.cells (List.replicate n.toNat (u8v 0)).toArray 5)) := by
  obtain ⟨i, hi, hz0, hz1, hz2⟩ := info_parts Try.infoU8
  exact run_make_u8 31 5 i Try.underlying31 hi hz0 hz1 hz2 n h0 h w

theorem new_bad (n : Int) (w : World) (h : n < 1 ∨ 65536 < n) : Calls Try.prog 6 #[.int .i64 n] w fun e w' => e = .returned (.tuple #[.pointer none, .int .i64 1]) ∧ w = w' := by
  rcases h with h | h
  · go_enter Try.func6, Try.ntmps6
    go_wp2
    go_ret2
    exact ⟨rfl, rfl⟩
  · have h1 : ¬ n < 1 := by omega
    go_enter Try.func6, Try.ntmps6
    go_wp2
    go_ret2
    exact ⟨rfl, rfl⟩

theorem new_ok (n : Int) (w : World) (h : 1 ≤ n) (h2 : n ≤ 65536) : Calls Try.prog 6 #[.int .i64 n] w fun e w' => e = .returned (.tuple #[.pointer (some ⟨w.heap.size + 1, 0, none⟩), .int .i64 0]) ∧ IsDisk w' (w.heap.size + 1) w.heap.size (Dk.new n.toNat) ∧ Fr [] w w' := by
  have h1 : ¬ n < 1 := by omega
  have h3 : ¬ 65536 < n := by omega
  have hm := mk_u8 (n * 16) (by omega) (by omega)
  go_enter Try.func6, Try.ntmps6
  go_wp2
  go_ret2
  refine ⟨rfl, ?_, ((Fr.refl _ _).alloc _).alloc _⟩
  have e : (n * 16).toNat = 16 * n.toNat := by omega
  refine ⟨?_, ?_, by simp [Dk.new], by simp [Dk.new]; omega, by simp [Dk.new]; omega⟩
  · have h9 := heap_new (w.alloc (.cells (List.replicate (n * 16).toNat (u8v 0)).toArray 5))
    rw [World.size_alloc] at h9
    simp only [List.toArray_replicate] at h9
    rw [h9, e]; simp [Dk.cells, Dk.new]
  · rw [heap_old _ _ _ (by simp), heap_new, e]; simp [Dk.new]

theorem blocks_any {w : World} {g bb : Nat} {D : Dk} (h : IsDisk w g bb D) : Calls Try.prog 22 #[.pointer (some ⟨g, 0, none⟩)] w fun e w' => e = .returned (.int .i64 D.n) ∧ w = w' := by
  have h0 := h.c0
  have h1 := h.hi
  clear h
  go_enter Try.func22, Try.ntmps22
  go_wp2
  go_ret
  exact ⟨by congr 2, rfl⟩

theorem power_any {w : World} {g bb : Nat} {D : Dk} (h : IsDisk w g bb D) : Calls Try.prog 10 #[.pointer (some ⟨g, 0, none⟩)] w fun e w' => e = .returned (.bool (!D.down)) ∧ w = w' := by
  have h0 := h.c2
  clear h
  go_enter Try.func10, Try.ntmps10
  go_wp2
  go_ret
  exact ⟨rfl, rfl⟩

theorem writes_any {w : World} {g bb : Nat} {D : Dk} (h : IsDisk w g bb D) : Calls Try.prog 11 #[.pointer (some ⟨g, 0, none⟩)] w fun e w' => e = .returned (.int .i64 D.writes) ∧ w = w' := by
  have h0 := h.c1
  clear h
  go_enter Try.func11, Try.ntmps11
  go_wp2
  go_ret
  exact ⟨rfl, rfl⟩

theorem restart_any {w : World} {g bb : Nat} {D : Dk} (h : IsDisk w g bb D) : Calls Try.prog 12 #[.pointer (some ⟨g, 0, none⟩)] w fun e w' =>
    e = .returned (.tuple #[]) ∧ IsDisk w' g bb { D with down := false, fused := false } ∧ Fr [g] w w' := by
  have h2 := h.c2
  have h3 := h.c3
  have f2 := h.f 2
  have f3 := h.f 3
  go_enter Try.func12, Try.ntmps12
  go_wp2
  go_end0
  exact ⟨rfl, (h.set2 false).set3 false, ((Fr.refl _ _).set (by simp) _).set (by simp) _⟩

def Dk.fuse (D : Dk) (k : Int) : Dk := if D.down then D else { D with fused := decide (0 ≤ k), left := k, down := k == 0 }

theorem fuse_any {w : World} {g bb : Nat} {D : Dk} (h : IsDisk w g bb D) (k : Int) : Calls Try.prog 8 #[.pointer (some ⟨g, 0, none⟩), .int .i64 k] w fun e w' =>
    e = .returned (.tuple #[]) ∧ IsDisk w' g bb (D.fuse k) ∧ Fr [g] w w' := by
  have h2 := h.c2
  have h3 := h.c3
  have h4 := h.c4
  have f2 := h.f 2
  have f3 := h.f 3
  have f4 := h.f 4
  cases hd : D.down
  · rw [hd] at h2
    go_enter Try.func8, Try.ntmps8
    go_wp2
    go_end0
    refine ⟨rfl, ?_, (((Fr.refl _ _).set (by simp) _).set (by simp) _).set (by simp) _⟩
    have := ((h.set3 (decide (0 ≤ k))).set4 k).set2 (k == 0)
    simpa [Dk.fuse, hd] using this
  · rw [hd] at h2
    go_enter Try.func8, Try.ntmps8
    go_wp2
    refine bodyPost_ret (results_none rfl _ _ _) rfl ?_
    exact ⟨rfl, by simpa [Dk.fuse, hd] using h, Fr.refl _ _⟩

/-- block: the answer. -/
def Dk.blockErr (D : Dk) (i : Int) : Int := if i < 0 ∨ (D.n : Int) ≤ i then 1 else if D.down then 50 else 0

theorem block_bad {w : World} {g bb : Nat} {D : Dk} (h : IsDisk w g bb D) (i : Int) (hi : D.blockErr i ≠ 0) : Calls Try.prog 24 #[.pointer (some ⟨g, 0, none⟩), .int .i64 i] w fun e w' =>
    e = .returned (.tuple #[.slice none 0 0, .int .i64 (D.blockErr i)]) ∧ w = w' := by
  have h2 := h.c2
  by_cases c1 : i < 0
  · have e1 : D.blockErr i = 1 := by simp [Dk.blockErr, c1]
    rw [e1]
    go_enter Try.func24, Try.ntmps24
    go_wp2_with (go_at_call 22; refine (blocks_any h).mono ?_; rintro e w' ⟨rfl, rfl⟩)
    go_ret2
    exact ⟨rfl, rfl⟩
  · by_cases c2 : (D.n : Int) ≤ i
    · have e1 : D.blockErr i = 1 := by simp [Dk.blockErr, c2]
      rw [e1]
      go_enter Try.func24, Try.ntmps24
      go_wp2_with (go_at_call 22; refine (blocks_any h).mono ?_; rintro e w' ⟨rfl, rfl⟩)
      go_ret2
      exact ⟨rfl, rfl⟩
    · cases hd : D.down
      · exact absurd (by simp [Dk.blockErr, c1, c2, hd]) hi
      · have e1 : D.blockErr i = 50 := by simp [Dk.blockErr, c1, c2, hd]
        rw [hd] at h2
        rw [e1]
        go_enter Try.func24, Try.ntmps24
        go_wp2_with (go_at_call 22; refine (blocks_any h).mono ?_; rintro e w' ⟨rfl, rfl⟩)
        go_ret2
        exact ⟨rfl, rfl⟩

theorem block_ok {w : World} {g bb : Nat} {D : Dk} (h : IsDisk w g bb D) (i : Nat) (hi : i < D.n) (hd : D.down = false) : Calls Try.prog 24 #[.pointer (some ⟨g, 0, none⟩), .int .i64 i] w fun e w' =>
    e = .returned (.tuple #[.slice (some ⟨bb, 16 * i, none⟩) 16 (16 * D.n - 16 * i), .int .i64 0]) ∧ w = w' := by
  have h2 := h.c2
  have h0 := h.c0
  have h1 := h.hi
  rw [hd] at h2
  have c1 : ¬ (i : Int) < 0 := by omega
  have c2 : ¬ (D.n : Int) ≤ i := by omega
  go_enter Try.func24, Try.ntmps24
  go_wp2_with (go_at_call 22; refine (blocks_any h).mono ?_; rintro e w' ⟨rfl, rfl⟩)
  go_ret2
  have e1 : i * 16 = 16 * i := by omega
  have e2 : (i + 1) * 16 - i * 16 = 16 := by omega
  exact ⟨by show Ending.returned (.tuple #[.slice (some ⟨bb, i * 16, none⟩) ((i + 1) * 16 - i * 16) (16 * D.n - i * 16), .int .i64 0]) = _; rw [e2, e1], rfl⟩

/-- copy of 16 bytes into a block, ahead of the walk. -/
theorem copy_u8 {w : World} {bb : Nat} {l : List UInt8} (hb : w.heap[bb]? = some (.cells (l.map u8v).toArray 5 (0, 0))) (off dLen dCap : Nat) (ad : Addr) (sLen sCap : Nat) (data : List UInt8)
    (hd : Cells w ad (data.map u8v)) (hl : data.length = Nat.min sLen dLen) (hfit : off + data.length ≤ l.length) (ty : TypeId) :
    (Builtin.copy_ #[31, 31] ty #[.slice (some ⟨bb, off, none⟩) dLen dCap, .slice (some ad) sLen sCap]).run Try.prog w =
      .ok (goInt data.length) (w.setRow bb ((splice l off data).map u8v).toArray) := by
  obtain ⟨i, hi, hz0, hz1, hz2⟩ := info_parts Try.infoU8
  have hr := run_copy_row (P := Try.prog) w 31 31 ty 5 bb off dLen dCap ad sLen sCap (l.map u8v).toArray 5 (data.map u8v) Try.underlying31 (by rw [hi]; simp [hz1]) hb (by simpa using hl)
    hd (by simpa using hfit) (u8v_one data)
  rw [hr]
  simp [splice, List.map_take, List.map_drop]

def Dk.write (D : Dk) (i : Nat) (data : List UInt8) : Dk :=
  let D1 : Dk := { D with bytes := splice D.bytes (16 * i) data, writes := wrap64 (D.writes + 1) }
  if D.fused then D1.fuse (wrap64 (D.left - 1)) else D1

theorem write_ok {w : World} {g bb : Nat} {D : Dk} (h : IsDisk w g bb D) (i : Nat) (hi : i < D.n) (hd : D.down = false) (ad : Addr) (cap : Nat) (data : List UInt8) (hdata : Cells w ad (data.map u8v)) (hl : data.length = 16) :
    Calls Try.prog 9 #[.pointer (some ⟨g, 0, none⟩), .int .i64 i, .slice (some ad) 16 cap] w fun e w' =>
    e = .returned (.int .i64 0) ∧ IsDisk w' g bb (D.write i data) ∧ Fr [g, bb] w w' := by
  have hcp := copy_u8 h.row (16 * i) 16 (16 * D.n - 16 * i) ad 16 cap data hdata (by simp [hl]) (by rw [h.len, hl]; omega) 3
  have HR := h.setRow (splice D.bytes (16 * i) data) (by rw [length_splice _ _ _ (by rw [h.len, hl]; omega), h.len])
  have hFR := (Fr.refl [g, bb] w).setRow (g := bb) (by simp) ((splice D.bytes (16 * i) data).map u8v).toArray
  generalize w.setRow bb ((splice D.bytes (16 * i) data).map u8v).toArray = w1 at hcp HR hFR
  have h1 := HR.c1
  have h3 := HR.c3
  have h4 := HR.c4
  have f1 := HR.f 1
  have HS := HR.set1 (wrap64 (D.writes + 1))
  have FR : Fr [g, bb] w w1 := hFR
  cases hf : D.fused
  · rw [show ({ D with bytes := splice D.bytes (16 * i) data } : Dk).fused = false from hf] at h3
    have eD : D.write i data = { D with bytes := splice D.bytes (16 * i) data, writes := wrap64 (D.writes + 1) } := by simp [Dk.write, hf]
    go_enter Try.func9, Try.ntmps9
    go_wp2_with (go_at_call 24; refine (block_ok h i hi hd).mono ?_; rintro e w' ⟨rfl, rfl⟩)
    go_ret
    refine ⟨rfl, ?_, FR.set (by simp) _⟩
    rw [eD]; exact HS
  · rw [show ({ D with bytes := splice D.bytes (16 * i) data } : Dk).fused = true from hf] at h3
    have eD : D.write i data = ({ D with bytes := splice D.bytes (16 * i) data, writes := wrap64 (D.writes + 1) } : Dk).fuse (wrap64 (D.left - 1)) := by simp [Dk.write, hf]
    go_enter Try.func9, Try.ntmps9
    go_wp2_with (first | (go_at_call 24; refine (block_ok h i hi hd).mono ?_; rintro e w' ⟨rfl, rfl⟩) | (go_at_call 8; refine (fuse_any HS _).mono ?_; rintro e w' ⟨rfl, hq, hfr⟩))
    go_ret
    refine ⟨rfl, ?_, ?_⟩
    · rw [eD]; exact hq
    · exact (FR.set (by simp) _).trans hfr (by simp)

theorem write_down {w : World} {g bb : Nat} {D : Dk} (h : IsDisk w g bb D) (i : Int) (hi : D.blockErr i = 50) (sp : Option Addr) (cap : Nat) :
    Calls Try.prog 9 #[.pointer (some ⟨g, 0, none⟩), .int .i64 i, .slice sp 16 cap] w fun e w' =>
    e = .returned (.int .i64 50) ∧ w = w' := by
  go_enter Try.func9, Try.ntmps9
  go_wp2_with (go_at_call 24; refine (block_bad h i (by rw [hi]; decide)).mono ?_; rw [hi]; rintro e w' ⟨rfl, rfl⟩)
  go_ret
  exact ⟨rfl, rfl⟩

theorem write_arg {w : World} {g bb : Nat} {D : Dk} (h : IsDisk w g bb D) (i : Int) (sp : Option Addr) (n cap : Nat) (hi : D.blockErr i = 1 ∨ n ≠ 16) :
    Calls Try.prog 9 #[.pointer (some ⟨g, 0, none⟩), .int .i64 i, .slice sp n cap] w fun e w' =>
    e = .returned (.int .i64 1) ∧ w = w' := by
  by_cases h1 : D.blockErr i = 1
  · go_enter Try.func9, Try.ntmps9
    go_wp2_with (go_at_call 24; refine (block_bad h i (by rw [h1]; decide)).mono ?_; rw [h1]; rintro e w' ⟨rfl, rfl⟩)
    go_ret
    exact ⟨rfl, rfl⟩
  · have hn : ((n : Int) == 16) = false := by simp; omega
    have hn' : ((n : Int) != 16) = true := by simp; omega
    by_cases h5 : D.blockErr i = 50
    · go_enter Try.func9, Try.ntmps9
      go_wp2_with (go_at_call 24; refine (block_bad h i (by rw [h5]; decide)).mono ?_; rw [h5]; rintro e w' ⟨rfl, rfl⟩)
      go_ret
      exact ⟨rfl, rfl⟩
    · have hz : 0 ≤ i ∧ i < D.n ∧ D.down = false := by
        unfold Dk.blockErr at h1 h5
        by_cases c : i < 0 ∨ (D.n : Int) ≤ i
        · exact absurd (if_pos c) h1
        · rw [if_neg c] at h5
          cases hd : D.down
          · exact ⟨by omega, by omega, rfl⟩
          · simp [hd] at h5
      obtain ⟨k, rfl⟩ := Int.eq_ofNat_of_zero_le hz.1
      go_enter Try.func9, Try.ntmps9
      go_wp2_with (go_at_call 24; refine (block_ok h k (by omega) hz.2.2).mono ?_; rintro e w' ⟨rfl, rfl⟩)
      go_ret
      exact ⟨rfl, rfl⟩

end Go.Proofs.Ytmdmdjolfahjbaa
