/- DiskExact (layer 19): what its four cases share. -/
import Derived.Test.YtmdmdjolfahjbaaPlays19i
import Derived.Deep.CutBlock
import Derived.Deep.DeepCutAuto
namespace Go.Proofs.Ytmdmdjolfahjbaa
open Go.RowKit

theorem blocks_is {w : World} {g bb : Nat} {D : Dk} (h : IsDisk w g bb D) {n : Nat} (hn : D.n = n) : Calls Try.prog 22 #[.pointer (some ⟨g, 0, none⟩)] w fun e w' => e = .returned (.int .i64 n) ∧ w = w' := by
  subst hn; exact blocks_any h
theorem image_is {w : World} {g bb : Nat} {D : Dk} (h : IsDisk w g bb D) {L : List UInt8} (hL : D.bytes = L) {S : ByteArray} (hS : (⟨L.toArray⟩ : ByteArray) = S) :
    Calls Try.prog 17 #[.pointer (some ⟨g, 0, none⟩)] w fun e w' =>
    ∃ g1 c1, e = .returned (.slice (some ⟨g1, 0, none⟩) L.length c1) ∧ (convert 31 9 (.slice (some ⟨g1, 0, none⟩) L.length c1)).run Try.prog w' = .ok (.string S) w' ∧ Fr [] w w' := by
  subst hL hS
  exact (image_any h).mono fun e w' ⟨g1, c1, r1, he, _, p2, _, _, hf⟩ => ⟨g1, c1, he, conv_u8 (cells_append p2) _ c1 rfl, hf⟩
theorem alike_reads {w : World} {g bb : Nat} {D : Dk} {rg rb cap : Nat} {rest : List Value} {R : Rk} (h : Alike w g bb D rg rb cap rest R) {S : ByteArray} (hS : (⟨R.bytes.toArray⟩ : ByteArray) = S) {c : Int} (hc : D.writes = c) :
    w.cell? ⟨rg, 0, none⟩ = some (.slice (some ⟨rb, 0, none⟩) (16 * R.n) cap) ∧ w.cell? ⟨rg, 1, none⟩ = some (.int .i64 c) ∧ (convert 31 9 (.slice (some ⟨rb, 0, none⟩) (16 * R.n) cap)).run Try.prog w = .ok (.string S) w := by
  subst hS hc
  refine ⟨h.ref.c0, ?_, conv_u8 h.ref.cells (16 * R.n) cap h.ref.len⟩
  rw [h.count]; exact h.ref.c1
end Go.Proofs.Ytmdmdjolfahjbaa
