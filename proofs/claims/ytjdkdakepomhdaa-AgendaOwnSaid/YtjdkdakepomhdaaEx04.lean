/- AgendaExact (layer 4): what the law carries. -/
import Derived.Test.YtjdkdakepomhdaaTwo04
import Derived.Test.YtjdkdakepomhdaaArgs
import Derived.Laws.Bits128
import Derived.Deep.CutBlock
import Derived.Deep.DeepCutAuto
namespace Go.Proofs.Ytjdkdakepomhdaa
open Go.RowKit

theorem and_one (n : Int) : bits .and .i64 n 1 = n % 2 := by
  have h1 : (BitVec.ofInt 64 1).toNat = 2 ^ 1 - 1 := by decide
  have key : (BitVec.ofInt 64 n &&& BitVec.ofInt 64 1).toNat = (n % ((2 ^ 64 : Nat) : Int)).toNat % 2 ^ 1 := by
    rw [BitVec.toNat_and, BitVec.toNat_ofInt, h1, Nat.and_two_pow_sub_one_eq_mod]
  show IntKind.i64.wrap ((BitVec.ofInt 64 n &&& BitVec.ofInt 64 1).toNat : Nat) = n % 2
  rw [key, IntKind.wrap_i64]
  omega

def RdOpA (_ : World) (cs : List Value) (o : OpA) : Prop := cs = [.int .i64 o.on, .int .i64 o.act, .int .i64 o.id, .int .i64 o.n] ∧ (Lit.int .i64 o.id).wf = true
set_option maxRecDepth 100000 in
theorem rd_opA {H : Type} {enc : TypeId × Value → H} {w : World} {base : Nat} {spare : Nat → Bool} {held : Bool} {fuel : Nat} {cs : List Value} {x : DataW H × List MemPlace}
    (h : DataW.trod enc Try.prog w base spare held fuel 31 cs = some x) : ∃ o, RdOpA w cs o := by
  obtain ⟨hl, m, hf⟩ := rd_struct Try.underlying31 h
  rw [show Try.prog.cellsOf 31 = 4 by kernel_rfl] at hl
  match cs, hl with
  | [c0, c1, c2, c3], _ =>
    obtain ⟨y0, h0⟩ := hf 0 _ rfl
    obtain ⟨y1, h1⟩ := hf 1 _ rfl
    obtain ⟨y2, h2⟩ := hf 2 _ rfl
    obtain ⟨y3, h3⟩ := hf 3 _ rfl
    replace h0 : DataW.trod enc Try.prog w base spare held m 3 [c0] = some y0 := h0
    replace h1 : DataW.trod enc Try.prog w base spare held m 3 [c1] = some y1 := h1
    replace h2 : DataW.trod enc Try.prog w base spare held m 3 [c2] = some y2 := h2
    replace h3 : DataW.trod enc Try.prog w base spare held m 3 [c3] = some y3 := h3
    obtain ⟨n0, e0, _⟩ := rd_int Try.underlying3 h0
    obtain ⟨n1, e1, _⟩ := rd_int Try.underlying3 h1
    obtain ⟨n2, e2, w2⟩ := rd_int Try.underlying3 h2
    obtain ⟨n3, e3, _⟩ := rd_int Try.underlying3 h3
    simp at e0 e1 e2 e3
    subst e0 e1 e2 e3
    exact ⟨⟨n0, n1, n2, n3⟩, rfl, w2⟩

/-- What the walk carries: two agendas, the array that holds them. -/
structure ExSt (w0 w : World) (lb g0 r0 g1 r1 : Nat) (S0 S1 : List Ent) (T0 T1 : Nat) : Prop where
  two : ∃ B0 B1 k0 k1, Two w g0 r0 g1 r1 S0 S1 T0 T1 B0 B1 k0 k1 ∧ (∀ x ∈ r0 :: B0, w0.heap.size ≤ x) ∧ (∀ x ∈ r1 :: B1, w0.heap.size ≤ x)
  arr : w.heap[lb]? = some (.cells #[ptr g0, ptr r0, ptr g1, ptr r1] 27 (0, 0))
  bel : Below w0.heap.size w0 w
theorem ExSt.new {w0 w w' : World} {lb g0 r0 g1 r1 : Nat} {S0 S1 : List Ent} {T0 T1 : Nat} (h : ExSt w0 w lb g0 r0 g1 r1 S0 S1 T0 T1) (hf : Fr [] w w') : ExSt w0 w' lb g0 r0 g1 r1 S0 S1 T0 T1 := by
  obtain ⟨B0, B1, k0, k1, h1, h2, h3⟩ := h.two
  exact ⟨⟨B0, B1, k0, k1, h1.fr hf (by simp), h2, h3⟩, hf.heap h.arr (by simp), h.bel.trans (hf.below h.bel.size (by simp))⟩
theorem ExSt.cells {w0 w : World} {lb g0 r0 g1 r1 : Nat} {S0 S1 : List Ent} {T0 T1 : Nat} (h : ExSt w0 w lb g0 r0 g1 r1 S0 S1 T0 T1) :
    w.cell? ⟨lb, 0, none⟩ = some (.pointer (some ⟨g0, 0, none⟩)) ∧ w.cell? ⟨lb, 1, none⟩ = some (.pointer (some ⟨r0, 0, none⟩)) ∧ w.cell? ⟨lb, 2, none⟩ = some (.pointer (some ⟨g1, 0, none⟩)) ∧ w.cell? ⟨lb, 3, none⟩ = some (.pointer (some ⟨r1, 0, none⟩)) :=
  ⟨blk_cell' h.arr rfl, blk_cell' h.arr rfl, blk_cell' h.arr rfl, blk_cell' h.arr rfl⟩
theorem ExSt.sizes {w0 w : World} {lb g0 r0 g1 r1 : Nat} {S0 S1 : List Ent} {T0 T1 : Nat} (h : ExSt w0 w lb g0 r0 g1 r1 S0 S1 T0 T1) : S0.length ≤ T0 ∧ S1.length ≤ T1 := by
  obtain ⟨B0, B1, k0, k1, h1, h2, h3⟩ := h.two
  exact ⟨h1.a.ag.size, h1.b.ag.size⟩
theorem arr_not {w : World} {lb g r : Nat} {S : List Ent} {T : Nat} {B : List Nat} {k : Option Ks} {cs : Array Value} (h : Pr w g r S T B k) (ha : w.heap[lb]? = some (.cells cs 27 (0, 0))) : lb ∉ r :: B := by
  intro hm
  rcases List.mem_cons.1 hm with hm | hm
  · subst hm
    have := ha.symm.trans h.ref.obj
    simp at this
  · exact h.ag.not_in ha (by decide) (by decide) (by decide) hm
theorem ExSt.play0 {w0 w : World} {lb g0 r0 g1 r1 : Nat} {S0 S1 : List Ent} {T0 T1 : Nat} (h : ExSt w0 w lb g0 r0 g1 r1 S0 S1 T0 T1) (o : OpA) (ho : (Lit.int .i64 o.id).wf = true) (hT : T0 < 900) :
    Calls Try.prog 8 #[sideV g0 r0, o.val] w fun v w' => v = .returned (.bool true) ∧ ∃ S' T', T' ≤ T0 + 1 ∧ ExSt w0 w' lb g0 r0 g1 r1 S' S1 T' T1 := by
  obtain ⟨B0, B1, k0, k1, h1, h2, h3⟩ := h.two
  refine (plays_any h1.a hT o ho).mono ?_
  rintro v w' ⟨rfl, hp⟩
  obtain ⟨S', T', B', k', ht, hT', hb, hk⟩ := h1.play hp
  have hs := h.bel.size
  refine ⟨rfl, S', T', hT', ⟨B', B1, k', k1, ht, fun x hx => ?_, h3⟩, hp.fr.heap h.arr (arr_not h1.a h.arr), h.bel.trans (hp.fr.below hs h2)⟩
  rcases List.mem_cons.1 hx with hx | hx
  · exact h2 x (hx ▸ List.mem_cons_self)
  · rcases hb x hx with h4 | h4
    · exact h2 x (List.mem_cons_of_mem _ h4)
    · omega
theorem ExSt.play1 {w0 w : World} {lb g0 r0 g1 r1 : Nat} {S0 S1 : List Ent} {T0 T1 : Nat} (h : ExSt w0 w lb g0 r0 g1 r1 S0 S1 T0 T1) (o : OpA) (ho : (Lit.int .i64 o.id).wf = true) (hT : T1 < 900) :
    Calls Try.prog 8 #[sideV g1 r1, o.val] w fun v w' => v = .returned (.bool true) ∧ ∃ S' T', T' ≤ T1 + 1 ∧ ExSt w0 w' lb g0 r0 g1 r1 S0 S' T0 T' := by
  obtain ⟨B0, B1, k0, k1, h1, h2, h3⟩ := h.two
  refine (plays_any h1.b hT o ho).mono ?_
  rintro v w' ⟨rfl, hp⟩
  obtain ⟨S', T', B', k', ht, hT', hb, hk⟩ := h1.swap.play hp
  have hs := h.bel.size
  refine ⟨rfl, S', T', hT', ⟨B0, B', k0, k', ht.swap, h2, fun x hx => ?_⟩, hp.fr.heap h.arr (arr_not h1.b h.arr), h.bel.trans (hp.fr.below hs h3)⟩
  rcases List.mem_cons.1 hx with hx | hx
  · exact h3 x (hx ▸ List.mem_cons_self)
  · rcases hb x hx with h4 | h4
    · exact h3 x (List.mem_cons_of_mem _ h4)
    · omega

theorem Two.playTo {w w' : World} {g0 r0 g1 r1 : Nat} {S0 S1 S' : List Ent} {T0 T1 T' : Nat} {B0 B1 : List Nat} {k0 k1 : Option Ks} (h : Two w g0 r0 g1 r1 S0 S1 T0 T1 B0 B1 k0 k1) (hp : PlayedTo w g0 r0 B0 k0 w' S' T') :
    ∃ B' k', Two w' g0 r0 g1 r1 S' S1 T' T1 B' B1 k' k1 ∧ (∀ x ∈ B', x ∈ B0 ∨ w.heap.size ≤ x) := by
  obtain ⟨B', k', h1, h3, h4⟩ := hp.ex
  obtain ⟨n1, n2⟩ := h.not_in
  refine ⟨B', k', ⟨h1, h.b.fr hp.fr n1 n2, fun x hx hm => ?_, h.rne, fun x hx hm => ?_⟩, h3⟩
  · rcases h3 x hx with h5 | h5
    · exact h.apart x h5 hm
    · have := h.b.ag.lt x hm; omega
  · rcases h4 x hx with h5 | h5
    · exact h.kne x h5 hm
    · have := h.b.ref.lt x (List.mem_cons_of_mem _ hm); omega
theorem ExSt.drop0 {w0 w : World} {lb g0 r0 g1 r1 : Nat} {S0 S1 : List Ent} {T0 T1 : Nat} (h : ExSt w0 w lb g0 r0 g1 r1 S0 S1 T0 T1) (id : Int) (ho : (Lit.int .i64 id).wf = true) (hT : T0 < 900) :
    Calls Try.prog 8 #[sideV g0 r0, OpA.val ⟨0, 2, id, 0⟩] w fun v w' => v = .returned (.bool true) ∧ ExSt w0 w' lb g0 r0 g1 r1 (S0.filter (notId id)) S1 T0 T1 := by
  obtain ⟨B0, B1, k0, k1, h1, h2, h3⟩ := h.two
  refine (plays_drop h1.a hT 0 id 0 ho).mono ?_
  rintro v w' ⟨rfl, hp⟩
  obtain ⟨B', k', ht, hb⟩ := h1.playTo hp
  have hs := h.bel.size
  refine ⟨rfl, ⟨B', B1, k', k1, ht, fun x hx => ?_, h3⟩, hp.fr.heap h.arr (arr_not h1.a h.arr), h.bel.trans (hp.fr.below hs h2)⟩
  rcases List.mem_cons.1 hx with hx | hx
  · exact h2 x (hx ▸ List.mem_cons_self)
  · rcases hb x hx with h4 | h4
    · exact h2 x (List.mem_cons_of_mem _ h4)
    · omega
theorem ExSt.drop1 {w0 w : World} {lb g0 r0 g1 r1 : Nat} {S0 S1 : List Ent} {T0 T1 : Nat} (h : ExSt w0 w lb g0 r0 g1 r1 S0 S1 T0 T1) (id : Int) (ho : (Lit.int .i64 id).wf = true) (hT : T1 < 900) :
    Calls Try.prog 8 #[sideV g1 r1, OpA.val ⟨0, 2, id, 0⟩] w fun v w' => v = .returned (.bool true) ∧ ExSt w0 w' lb g0 r0 g1 r1 S0 (S1.filter (notId id)) T0 T1 := by
  obtain ⟨B0, B1, k0, k1, h1, h2, h3⟩ := h.two
  refine (plays_drop h1.b hT 0 id 0 ho).mono ?_
  rintro v w' ⟨rfl, hp⟩
  obtain ⟨B', k', ht, hb⟩ := h1.swap.playTo hp
  have hs := h.bel.size
  refine ⟨rfl, ⟨B0, B', k0, k', ht.swap, h2, fun x hx => ?_⟩, hp.fr.heap h.arr (arr_not h1.b h.arr), h.bel.trans (hp.fr.below hs h3)⟩
  rcases List.mem_cons.1 hx with hx | hx
  · exact h3 x (hx ▸ List.mem_cons_self)
  · rcases hb x hx with h4 | h4
    · exact h3 x (List.mem_cons_of_mem _ h4)
    · omega
theorem ExSt.first0 {w0 w : World} {lb g0 r0 g1 r1 : Nat} {S0 S1 : List Ent} {T0 T1 : Nat} (h : ExSt w0 w lb g0 r0 g1 r1 S0 S1 T0 T1) (hT : T0 < 900) :
    Calls Try.prog 10 #[sideV g0 r0] w fun v w' => v = .returned (.bool true) ∧ ExSt w0 w' lb g0 r0 g1 r1 S0 S1 T0 T1 := by
  obtain ⟨B0, B1, k0, k1, h1, h2, h3⟩ := h.two
  exact (sfirst_any h1.a (by omega)).mono fun v w' ⟨h4, h5⟩ => ⟨h4, h.new h5⟩
theorem ExSt.first1 {w0 w : World} {lb g0 r0 g1 r1 : Nat} {S0 S1 : List Ent} {T0 T1 : Nat} (h : ExSt w0 w lb g0 r0 g1 r1 S0 S1 T0 T1) (hT : T1 < 900) :
    Calls Try.prog 10 #[sideV g1 r1] w fun v w' => v = .returned (.bool true) ∧ ExSt w0 w' lb g0 r0 g1 r1 S0 S1 T0 T1 := by
  obtain ⟨B0, B1, k0, k1, h1, h2, h3⟩ := h.two
  exact (sfirst_any h1.b (by omega)).mono fun v w' ⟨h4, h5⟩ => ⟨h4, h.new h5⟩
/-- The document's first entry, of some. -/
theorem rfirst_some {w : World} {g r : Nat} {S : List Ent} {T : Nat} {B : List Nat} {k : Option Ks} (h : Pr w g r S T B k) (hT : T < 900) (hS : S ≠ []) :
    Calls Try.prog 9 #[.pointer (some ⟨r, 0, none⟩)] w fun v w' => ∃ e ∈ S, v = .returned (.tuple #[.int .i64 e.id, .int .i64 e.tm, .bool true]) ∧ Fr [] w w' := by
  obtain ⟨Q, hQ⟩ := ord_ex S h.ag.turns
  refine (rfirst_any h.ref (by have := h.ag.size; omega) h.ag.turns hQ).mono ?_
  rintro v w' ⟨rfl, hf⟩
  cases hq : Q with
  | nil => rw [hq] at hQ; exact absurd (List.nil_perm.1 hQ.perm) hS
  | cons e q => exact ⟨e, hQ.perm.mem_iff.1 (by rw [hq]; exact List.mem_cons_self), rfl, hf⟩
theorem filter_less {S : List Ent} {e : Ent} (h : e ∈ S) : (S.filter (notId e.id)).length < S.length := by
  have h1 := List.length_filter_lt_length_iff_exists (p := notId e.id) (l := S)
  exact h1.2 ⟨e, h, by simp [notId]⟩
theorem ExSt.rfirst0 {w0 w : World} {lb g0 r0 g1 r1 : Nat} {S0 S1 : List Ent} {T0 T1 : Nat} (h : ExSt w0 w lb g0 r0 g1 r1 S0 S1 T0 T1) (hT : T0 < 900) (hS : S0 ≠ []) :
    Calls Try.prog 9 #[.pointer (some ⟨r0, 0, none⟩)] w fun v w' => ∃ e ∈ S0, (Lit.int .i64 e.id).wf = true ∧ v = .returned (.tuple #[.int .i64 e.id, .int .i64 e.tm, .bool true]) ∧ ExSt w0 w' lb g0 r0 g1 r1 S0 S1 T0 T1 := by
  obtain ⟨B0, B1, k0, k1, h1, h2, h3⟩ := h.two
  exact (rfirst_some h1.a hT hS).mono fun v w' ⟨e, he, h4, h5⟩ => ⟨e, he, h1.a.ag.wf e he, h4, h.new h5⟩
theorem ExSt.rfirst1 {w0 w : World} {lb g0 r0 g1 r1 : Nat} {S0 S1 : List Ent} {T0 T1 : Nat} (h : ExSt w0 w lb g0 r0 g1 r1 S0 S1 T0 T1) (hT : T1 < 900) (hS : S1 ≠ []) :
    Calls Try.prog 9 #[.pointer (some ⟨r1, 0, none⟩)] w fun v w' => ∃ e ∈ S1, (Lit.int .i64 e.id).wf = true ∧ v = .returned (.tuple #[.int .i64 e.id, .int .i64 e.tm, .bool true]) ∧ ExSt w0 w' lb g0 r0 g1 r1 S0 S1 T0 T1 := by
  obtain ⟨B0, B1, k0, k1, h1, h2, h3⟩ := h.two
  exact (rfirst_some h1.b hT hS).mono fun v w' ⟨e, he, h4, h5⟩ => ⟨e, he, h1.b.ag.wf e he, h4, h.new h5⟩
theorem ExSt.len0 {w0 w : World} {lb g0 r0 g1 r1 : Nat} {S0 S1 : List Ent} {T0 T1 : Nat} (h : ExSt w0 w lb g0 r0 g1 r1 S0 S1 T0 T1) : ∃ p c, w.cell? ⟨r0, 0, none⟩ = some (.slice p S0.length c) := by
  obtain ⟨B0, B1, k0, k1, h1, h2, h3⟩ := h.two
  obtain ⟨p, c, hv, -, -⟩ := h1.a.ref.es.open
  exact ⟨p, c, by rw [h1.a.ref.cell, hv]⟩
theorem ExSt.len1 {w0 w : World} {lb g0 r0 g1 r1 : Nat} {S0 S1 : List Ent} {T0 T1 : Nat} (h : ExSt w0 w lb g0 r0 g1 r1 S0 S1 T0 T1) : ∃ p c, w.cell? ⟨r1, 0, none⟩ = some (.slice p S1.length c) := by
  obtain ⟨B0, B1, k0, k1, h1, h2, h3⟩ := h.two
  obtain ⟨p, c, hv, -, -⟩ := h1.b.ref.es.open
  exact ⟨p, c, by rw [h1.b.ref.cell, hv]⟩
end Go.Proofs.Ytjdkdakepomhdaa
