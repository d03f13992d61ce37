/- The contracts of package disk, part 2: what reads and copies bytes. -/
import Derived.Test.YtmdmdjolfahjbaaDisk
import Derived.Lib.SliceRun
namespace Go.Proofs.Ytmdmdjolfahjbaa
open Go.RowKit

/-- slices.Clone of bytes that lie at an address. -/
theorem clone_some (w : World) (ad : Addr) (n cap : Nat) (l : List UInt8) (hln : l.length = n) (hl : Cells w ad (l.map u8v)) (hn : n ≤ 140737488355328) :
    Calls Try.prog 25 #[.slice (some ad) n cap] w fun e w' =>
    ∃ g cap' rest, e = .returned (.slice (some ⟨g, 0, none⟩) n cap') ∧ w.heap.size ≤ g ∧ w'.heap[g]? = some (.cells (l.map u8v ++ rest).toArray 5 (0, 0)) ∧ (l.map u8v ++ rest).length = cap' ∧ cap' ≤ maxLen ∧ Fr [] w w' := by
  subst hln
  obtain ⟨i, hi, hz0, hz1, hz2⟩ := info_parts Try.infoU8
  have hq := fun (w : World) (a : Option Addr) (n c : Nat) => Lib.run_eql_slice_nil (P := Try.prog) w 31 5 a n c 0 0 Try.underlying31
  have hc2 : Cells (w.alloc (.cells #[] 5)) ad (l.map u8v) := hl.fr ((Fr.refl [] w).alloc _) (by simp)
  have hown : (w.alloc (.cells #[] 5)).ownsRow w.heap.size 5 1 (.slice (some ⟨w.heap.size, 0, none⟩) 0 0) 0 [] :=
    World.ownsRow_made w #[] 0 (Nat.le_refl _) (by simp) (by simp)
  go_enter Try.func25, Try.ntmps25
  go_wp2_with (at_builtin; refine wpList_append_own _ rfl _ _ 31 rfl w.heap.size 5 i (.int .u8 0) 1 1 Try.underlying31 hi hz0 hz1 hz2 rfl (by decide) _ _ _ rfl hown ad l.length cap (l.map u8v) rfl ?_ hc2 (u8v_one l) ?_ ?_ ?_ ?_)
  · simp
  · simp [maxLen]; omega
  · omega
  · simp
  · intro v w1 ho hg hne
    go_wp2
    go_ret
    obtain ⟨g, cap', rest, rfl, q1, q2, _, q4, q5⟩ := own_open ho hne
    exact ⟨g, cap', rest, rfl, q1, q2, q4, q5, ((Fr.refl _ _).alloc _).grown hg (by simp [Value.ownBlock])⟩

theorem clone_nil (w : World) : Calls Try.prog 25 #[.slice none 0 0] w fun e w' => e = .returned (.slice none 0 0) ∧ w = w' := by
  have hq := fun (w : World) (a : Option Addr) (n c : Nat) => Lib.run_eql_slice_nil (P := Try.prog) w 31 5 a n c 0 0 Try.underlying31
  go_enter Try.func25, Try.ntmps25
  go_wp2
  go_ret
  exact ⟨rfl, rfl⟩

/-- The bytes of block i. -/
def Dk.at (D : Dk) (i : Nat) : List UInt8 := (D.bytes.drop (16 * i)).take 16

theorem Dk.at_len {D : Dk} (hl : D.bytes.length = 16 * D.n) {i : Nat} (hi : i < D.n) : (D.at i).length = 16 := by
  simp [Dk.at]; omega

theorem IsDisk.cells {w : World} {g bb : Nat} {D : Dk} (h : IsDisk w g bb D) (i : Nat) : Cells w ⟨bb, 16 * i, none⟩ ((D.at i).map u8v) := by
  have h1 : Cells w ⟨bb, 0, none⟩ (D.bytes.map u8v) := Cells.of_blk h.row 0 _ (fun j v hv => by simpa using hv)
  have h2 := h1.sub (16 * i) 16
  simpa [Dk.at, List.map_take, List.map_drop] using h2

theorem read_ok {w : World} {g bb : Nat} {D : Dk} (h : IsDisk w g bb D) (i : Nat) (hi : i < D.n) (hd : D.down = false) :
    Calls Try.prog 13 #[.pointer (some ⟨g, 0, none⟩), .int .i64 i] w fun e w' =>
    ∃ g cap' rest, e = .returned (.tuple #[.slice (some ⟨g, 0, none⟩) 16 cap', .int .i64 0]) ∧ w.heap.size ≤ g ∧ w'.heap[g]? = some (.cells ((D.at i).map u8v ++ rest).toArray 5 (0, 0)) ∧ ((D.at i).map u8v ++ rest).length = cap' ∧ cap' ≤ maxLen ∧ Fr [] w w' := by
  have hl := Dk.at_len h.len hi
  go_enter Try.func13, Try.ntmps13
  go_wp2_with (first | (go_at_call 24; refine (block_ok h i hi hd).mono ?_; rintro e w' ⟨rfl, rfl⟩) | (go_at_call 25; refine (clone_some _ _ _ _ _ hl (h.cells i) (by decide)).mono ?_; rintro e w' ⟨g', cap', rest, rfl, q1, q2, q3, q4, hfr⟩))
  go_ret2
  exact ⟨g', cap', rest, rfl, q1, q2, q3, q4, hfr⟩

theorem read_bad {w : World} {g bb : Nat} {D : Dk} (h : IsDisk w g bb D) (i : Int) (hi : D.blockErr i ≠ 0) :
    Calls Try.prog 13 #[.pointer (some ⟨g, 0, none⟩), .int .i64 i] w fun e w' =>
    e = .returned (.tuple #[.slice none 0 0, .int .i64 (D.blockErr i)]) ∧ w = w' := by
  go_enter Try.func13, Try.ntmps13
  go_wp2_with (first | (go_at_call 24; refine (block_bad h i hi).mono ?_; rintro e w' ⟨rfl, rfl⟩) | (go_at_call 25; refine (clone_nil _).mono ?_; rintro e w' ⟨rfl, rfl⟩))
  go_ret2
  exact ⟨rfl, rfl⟩

theorem image_any {w : World} {g bb : Nat} {D : Dk} (h : IsDisk w g bb D) :
    Calls Try.prog 17 #[.pointer (some ⟨g, 0, none⟩)] w fun e w' =>
    ∃ g cap' rest, e = .returned (.slice (some ⟨g, 0, none⟩) D.bytes.length cap') ∧ w.heap.size ≤ g ∧ w'.heap[g]? = some (.cells (D.bytes.map u8v ++ rest).toArray 5 (0, 0)) ∧ (D.bytes.map u8v ++ rest).length = cap' ∧ cap' ≤ maxLen ∧ Fr [] w w' := by
  have h0 := h.c0
  have h1 : Cells w ⟨bb, 0, none⟩ (D.bytes.map u8v) := Cells.of_blk h.row 0 _ (fun j v hv => by simpa using hv)
  have hm := h.hi
  rw [← h.len] at h0
  have hl : D.bytes.length ≤ 140737488355328 := by rw [h.len]; omega
  go_enter Try.func17, Try.ntmps17
  go_wp2_with (go_at_call 25; refine (clone_some _ _ _ _ _ rfl h1 hl).mono ?_; rintro e w' ⟨g', cap', rest, rfl, q1, q2, q3, q4, hfr⟩)
  go_ret
  exact ⟨g', cap', rest, rfl, q1, q2, q3, q4, hfr⟩

theorem conv_u8 {w : World} {b o : Nat} {l : List UInt8} (h : Cells w ⟨b, o, none⟩ (l.map u8v)) (n cap : Nat) (hn : l.length = n) :
    (convert 31 9 (.slice (some ⟨b, o, none⟩) n cap)).run Try.prog w = .ok (.string ⟨l.toArray⟩) w :=
  run_conv_u8 Try.underlying31 Try.underlying5 Try.underlying9 h n cap hn

def Dk.load (l : List UInt8) : Dk := { Dk.new (l.length / 16) with bytes := l }

/-- Load where it refuses. -/
theorem load_bad (w : World) (sp : Option Addr) (n cap : Nat) (hn : n ≤ 140737488355328) (h : n = 0 ∨ n % 16 ≠ 0 ∨ 65536 < n / 16) :
    Calls Try.prog 15 #[.slice sp n cap] w fun e w' => e = .returned (.tuple #[.pointer none, .int .i64 1]) ∧ Fr [] w w' := by
  by_cases h1 : (n : Int) / 16 < 1 ∨ 65536 < (n : Int) / 16
  · go_enter Try.func15, Try.ntmps15
    go_wp2_with (go_at_call 6; refine (new_bad _ _ h1).mono ?_; rintro e w' ⟨rfl, rfl⟩)
    go_ret2
    exact ⟨rfl, Fr.refl _ _⟩
  · have h2 : 1 ≤ (n : Int) / 16 := by omega
    have h3 : (n : Int) / 16 ≤ 65536 := by omega
    have h4 : ((n : Int) % 16 != 0) = true := by simp; omega
    go_enter Try.func15, Try.ntmps15
    go_wp2_with (go_at_call 6; refine (new_ok _ _ h2 h3).mono ?_; rintro e w' ⟨rfl, hd, hfr⟩)
    go_ret2
    exact ⟨rfl, hfr⟩

theorem load_ok (w : World) (ad : Addr) (cap : Nat) (l : List UInt8) (hl : Cells w ad (l.map u8v)) (h0 : l ≠ []) (h1 : l.length % 16 = 0) (h2 : l.length / 16 ≤ 65536) :
    Calls Try.prog 15 #[.slice (some ad) l.length cap] w fun e w' =>
    e = .returned (.tuple #[.pointer (some ⟨w.heap.size + 1, 0, none⟩), .int .i64 0]) ∧ IsDisk w' (w.heap.size + 1) w.heap.size (Dk.load l) ∧ Fr [] w w' := by
  have h00 : 0 < l.length := List.length_pos_iff.2 h0
  have h4 : 1 ≤ (l.length : Int) / 16 := by omega
  have h5 : (l.length : Int) / 16 ≤ 65536 := by omega
  have h6 : ((l.length : Int) % 16 != 0) = false := by simp; omega
  go_enter Try.func15, Try.ntmps15
  go_wp2_with fail
  refine (new_ok _ _ h4 h5).mono ?_
  rintro e w' ⟨rfl, hd, hfr⟩
  have hz := hd.c0
  have hw := hl.fr hfr (by simp)
  have e1 : ((l.length : Int) / 16).toNat = l.length / 16 := by omega
  rw [e1] at hd hz
  have e2 : splice (Dk.new (l.length / 16)).bytes 0 l = l := by
    simp [splice, Dk.new]; omega
  have hcp := fun ty => copy_u8 hd.row 0 (16 * (l.length / 16)) (16 * (l.length / 16)) ad l.length cap l hw (Nat.min_eq_left (by omega)).symm (by simp [Dk.new]; omega) ty
  rw [e2] at hcp
  have HR := hd.setRow l (by simp [Dk.new]; omega)
  have HF := hfr.setRow (g := w.heap.size) (by simp) (l.map u8v).toArray
  simp only [Dk.new] at hz
  generalize w'.setRow w.heap.size (l.map u8v).toArray = w2 at hcp HR HF
  clear hd
  go_wp2
  go_ret2
  exact ⟨rfl, HR, HF⟩

theorem write_i {w : World} {g bb : Nat} {D : Dk} (h : IsDisk w g bb D) (i : Int) (h0 : 0 ≤ i) (hi : i < D.n) (hd : D.down = false) (ad : Addr) (cap : Nat) (data : List UInt8) (hdata : Cells w ad (data.map u8v)) (hl : data.length = 16) :
    Calls Try.prog 9 #[.pointer (some ⟨g, 0, none⟩), .int .i64 i, .slice (some ad) 16 cap] w fun e w' =>
    e = .returned (.int .i64 0) ∧ IsDisk w' g bb (D.write i.toNat data) ∧ Fr [g, bb] w w' := by
  obtain ⟨k, rfl⟩ := Int.eq_ofNat_of_zero_le h0
  rw [Int.toNat_natCast]
  exact write_ok h k (by omega) hd ad cap data hdata hl

theorem blockErr_in {D : Dk} {i : Int} (h0 : 0 ≤ i) (hi : i < D.n) : D.blockErr i = if D.down then 50 else 0 := by
  unfold Dk.blockErr
  rw [if_neg (by omega)]
theorem blockErr_out {D : Dk} {i : Int} (h : i < 0 ∨ (D.n : Int) ≤ i) : D.blockErr i = 1 := by
  unfold Dk.blockErr
  rw [if_pos h]
end Go.Proofs.Ytmdmdjolfahjbaa
