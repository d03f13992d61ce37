/- The statements of layer 19 (disk): its helpers. -/
import Derived.Test.YtmdmdjolfahjbaaDisk2
namespace Go.Proofs.Ytmdmdjolfahjbaa
open Go.RowKit

def zero16 : List UInt8 := List.replicate 16 0
def zeroArr : Array Value := (zero16.map u8v).toArray
theorem mk_16 (w : World) : (Instr.makeSlice 31 (.int .i64 16) (.int .i64 16)).run Try.prog w = .ok (.slice (some ⟨w.heap.size, 0, none⟩) 16 16) (w.alloc (.cells zeroArr 5)) := by
  have h := mk_u8 16 (by decide) (by decide) w
  have e : (List.replicate (Int.toNat 16) (u8v 0)).toArray = zeroArr := by simp [zeroArr, zero16]
  rw [e] at h
  exact h

theorem cells_zero (w : World) : Cells (w.alloc (.cells zeroArr 5)) ⟨w.heap.size, 0, none⟩ (zero16.map u8v) :=
  Cells.of_blk (heap_new w _) 0 _ (fun j v hv => by unfold zeroArr; simpa using hv)

theorem wakes_any (w : World) : Calls Try.prog 7 #[] w fun e w' => e = .returned (.bool true) ∧ Fr [] w w' := by
  have hm := mk_16
  go_enter Try.func7, Try.ntmps7
  go_wp2_with fail
  refine (new_ok 2 w (by decide) (by decide)).mono ?_
  rintro e w1 ⟨rfl, hd, hf⟩
  go_wp2_with fail
  refine (blocks_any hd).mono ?_
  rintro e w2 ⟨he, rfl⟩
  replace he : e = .returned (.int .i64 2) := he
  subst he
  go_wp2_with fail
  refine (power_any hd).mono ?_
  rintro e w2 ⟨he, rfl⟩
  replace he : e = .returned (.bool true) := he
  subst he
  go_wp2_with fail
  have hf1 := hf.alloc (.cells zeroArr 5)
  have hd1 := hd.fr ((Fr.refl [] w1).alloc (.cells zeroArr 5)) (by simp) (by simp)
  refine (write_ok hd1 1 (by decide) rfl _ _ zero16 (cells_zero w1) rfl).mono ?_
  rintro e w2 ⟨rfl, hd2, hf2⟩
  go_wp2_with fail
  refine (writes_any hd2).mono ?_
  rintro e w3 ⟨he, rfl⟩
  have e1 : ((Dk.new (Int.toNat 2)).write 1 zero16).writes = 1 := by show wrap64 (0 + 1) = 1; unfold wrap64; omega
  rw [e1] at he
  subst he
  go_wp2_with fail
  have hd3 := hd2.fr ((Fr.refl [] w2).alloc (.cells zeroArr 5)) (by simp) (by simp)
  refine (write_arg hd3 2 _ _ _ (Or.inl rfl)).mono ?_
  rintro e w3 ⟨rfl, rfl⟩
  go_wp2_with fail
  go_ret
  exact ⟨rfl, (hf1.trans hf2 (by simp)).alloc _⟩
end Go.Proofs.Ytmdmdjolfahjbaa
