/- How a call of layer 19's walks is read. -/
import Derived.Test.YtmdmdjolfahjbaaDiskLaw
import Derived.Test.YtmdmdjolfahjbaaArgs
namespace Go.Proofs.Ytmdmdjolfahjbaa
open Go.RowKit

structure OpD where
  on : Int
  act : Int
  n : Int
  data : List UInt8

def RdOp (w : World) (cs : List Value) (o : OpD) : Prop :=
  ∃ v, cs = [.int .i64 o.on, .int .i64 o.act, .int .i64 o.n, v] ∧ (Lit.int .i64 o.n).wf = true ∧ RdSl 1 RdU8 w v o.data

theorem rd_op {H : Type} {enc : TypeId × Value → H} {w : World} {base : Nat} {spare : Nat → Bool} {held : Bool} {fuel : Nat} {cs : List Value} {x : DataW H × List MemPlace}
    (h : DataW.trod enc Try.prog w base spare held fuel 33 cs = some x) : ∃ o, RdOp w cs o := by
  obtain ⟨hl, m, hf⟩ := rd_struct Try.underlying33 h
  rw [show Try.prog.cellsOf 33 = 4 by kernel_rfl] at hl
  match cs, hl with
  | [c0, c1, c2, c3], _ =>
    have c3' : Try.prog.cellsOf 5 = 1 := by kernel_rfl
    obtain ⟨y0, h0⟩ := hf 0 _ rfl
    obtain ⟨y1, h1⟩ := hf 1 _ rfl
    obtain ⟨y2, h2⟩ := hf 2 _ rfl
    obtain ⟨y3, h3⟩ := hf 3 _ rfl
    replace h0 : DataW.trod enc Try.prog w base spare held m 3 [c0] = some y0 := h0
    replace h1 : DataW.trod enc Try.prog w base spare held m 3 [c1] = some y1 := h1
    replace h2 : DataW.trod enc Try.prog w base spare held m 3 [c2] = some y2 := h2
    replace h3 : DataW.trod enc Try.prog w base spare held m 31 [c3] = some y3 := h3
    obtain ⟨n0, e0, _⟩ := rd_int Try.underlying3 h0
    obtain ⟨n1, e1, _⟩ := rd_int Try.underlying3 h1
    obtain ⟨n2, e2, w2⟩ := rd_int Try.underlying3 h2
    obtain ⟨l, v, e3, r3⟩ := rd_slice (R := RdU8) Try.underlying31 c3' (fun _ _ _ h => rd_u8 Try.underlying5 h) h3
    simp at e0 e1 e2 e3
    subst e0 e1 e2 e3
    exact ⟨⟨n0, n1, n2, l⟩, c3, rfl, w2, r3⟩

theorem RdOp.below {w w' : World} {cs : List Value} {o : OpD} (h : RdOp w cs o) (hb : Below w.heap.size w w') : RdOp w' cs o := by
  obtain ⟨v, e, h1, h2⟩ := h
  exact ⟨v, e, h1, h2.below hb (fun _ _ h => h)⟩

end Go.Proofs.Ytmdmdjolfahjbaa
