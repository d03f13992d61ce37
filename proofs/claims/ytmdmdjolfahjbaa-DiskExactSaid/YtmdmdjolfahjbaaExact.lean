/- DiskExact (layer 19): all four cases. -/
import Derived.Test.YtmdmdjolfahjbaaExact00
import Derived.Test.YtmdmdjolfahjbaaExact01
import Derived.Test.YtmdmdjolfahjbaaExact10
import Derived.Test.YtmdmdjolfahjbaaExact11
namespace Go.Proofs.Ytmdmdjolfahjbaa
open Go.RowKit

theorem exact_walk (w : World) (blocks : Int) (vi : Value) (img : List UInt8) (himg : RdSl 1 RdU8 w vi img) (v : Value) (ops : List OpD) (hops : RdSl 4 RdOp w v ops) :
    Calls Try.prog 5 #[.int .i64 blocks, vi, v] w fun e w' => e = .returned (.bool true) ∧ Below w.heap.size w w' := by
  by_cases hb : 1 ≤ blocks ∧ blocks ≤ 65536
  all_goals by_cases hl : (img.take 2000).length = 0 ∨ (img.take 2000).length % 16 ≠ 0
  · exact exact_walk10 w blocks vi img himg v ops hops hb hl
  · exact exact_walk11 w blocks vi img himg v ops hops hb (fun h => hl (Or.inl (by rw [h]; rfl))) (by omega)
  · exact exact_walk00 w blocks vi img himg v ops hops (by omega) hl
  · exact exact_walk01 w blocks vi img himg v ops hops (by omega) (fun h => hl (Or.inl (by rw [h]; rfl))) (by omega)
end Go.Proofs.Ytmdmdjolfahjbaa
