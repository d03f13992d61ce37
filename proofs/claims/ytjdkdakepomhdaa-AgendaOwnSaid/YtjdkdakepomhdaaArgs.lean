/- How the arguments of a law are read: typed readings out of the form's own reading of memory. No program in sight. -/
import Derived.Test.YtjdkdakepomhdaaLib
import Derived.ProofKit
import Derived.Deep.Slices
namespace Go.Proofs.Ytjdkdakepomhdaa
open Go.RowKit

/-- A slice read as a list: each element's cells, and what they read as. -/
def RdSl {α : Type} (sz : Nat) (R : World → List Value → α → Prop) (w : World) (v : Value) (l : List α) : Prop :=
  ∃ (sp : Option Addr) (cap : Nat), v = .slice sp l.length cap ∧ l.length ≤ cap ∧ cap ≤ maxLen ∧ (sp = none → l = [] ∧ cap = 0) ∧
    ∀ ad, sp = some ad → ∀ i a, l[i]? = some a → ∃ cs, cs.length = sz ∧ Cells w (ad.add (i * sz)) cs ∧ R w cs a

theorem Cells.below {w w' : World} {a : Addr} {l : List Value} (h : Cells w a l) (hb : Below w.heap.size w w') : Cells w' a l := fun j v hv => by
  rw [hb.cell (World.block_lt_of_cell? w _ (h j v hv))]; exact h j v hv

theorem RdSl.below {α : Type} {sz : Nat} {R : World → List Value → α → Prop} {w w' : World} {v : Value} {l : List α} (h : RdSl sz R w v l) (hb : Below w.heap.size w w')
    (hR : ∀ cs a, R w cs a → R w' cs a) : RdSl sz R w' v l := by
  obtain ⟨sp, cap, rfl, h1, h2, h3, h4⟩ := h
  exact ⟨sp, cap, rfl, h1, h2, h3, fun ad had i a hi => by
    obtain ⟨cs, hl, hc, hr⟩ := h4 ad had i a hi
    exact ⟨cs, hl, hc.below hb, hR _ _ hr⟩⟩

/-- One cell's readings. -/
def RdInt (k : IntKind) (_ : World) (cs : List Value) (n : Int) : Prop := cs = [.int k n] ∧ (Lit.int k n).wf = true
def RdBool (_ : World) (cs : List Value) (b : Bool) : Prop := cs = [.bool b]
def RdStr (_ : World) (cs : List Value) (s : ByteArray) : Prop := cs = [.string s] ∧ s.size ≤ maxLen
def RdU8 (_ : World) (cs : List Value) (b : UInt8) : Prop := cs = [u8v b]
/-- A slice in one cell. -/
def RdOne {α : Type} (R : World → Value → α → Prop) (w : World) (cs : List Value) (a : α) : Prop := ∃ v, cs = [v] ∧ R w v a

section
variable {H : Type} {enc : TypeId × Value → H} {P : Program} {w : World} {base : Nat} {spare : Nat → Bool} {held : Bool}

theorem rd_int {k : IntKind} {t : TypeId} {fuel : Nat} {cs : List Value} {x : DataW H × List MemPlace} (ht : P.underlying t = some (.int k)) (h : DataW.trod enc P w base spare held fuel t cs = some x) :
    ∃ n, RdInt k w cs n := by
  obtain ⟨n, e1, _, h2⟩ := DataW.trod_int ht h
  exact ⟨n, e1, h2⟩
theorem u8_wf {n : Int} (h : (Lit.int .u8 n).wf = true) : 0 ≤ n ∧ n ≤ 255 := by
  have h1 : (decide (IntKind.u8.min ≤ n) && decide (n ≤ IntKind.u8.max)) = true := h
  have e1 : IntKind.u8.min = 0 := by decide
  have e2 : IntKind.u8.max = 255 := by decide
  rw [e1, e2] at h1
  simpa using h1
theorem i64_wf {n : Int} (h : (Lit.int .i64 n).wf = true) : -9223372036854775808 ≤ n ∧ n ≤ 9223372036854775807 := by
  have h1 : (decide (IntKind.i64.min ≤ n) && decide (n ≤ IntKind.i64.max)) = true := h
  have e1 : IntKind.i64.min = -9223372036854775808 := by decide
  have e2 : IntKind.i64.max = 9223372036854775807 := by decide
  rw [e1, e2] at h1
  simpa using h1
theorem rd_u8 {t : TypeId} {fuel : Nat} {cs : List Value} {x : DataW H × List MemPlace} (ht : P.underlying t = some (.int .u8)) (h : DataW.trod enc P w base spare held fuel t cs = some x) :
    ∃ b, RdU8 w cs b := by
  obtain ⟨n, e1, _, h2⟩ := DataW.trod_int ht h
  obtain ⟨h3, h4⟩ := u8_wf h2
  refine ⟨UInt8.ofNat n.toNat, ?_⟩
  rw [e1]
  show _ = [Value.int .u8 ((UInt8.ofNat n.toNat).toNat : Int)]
  have : ((UInt8.ofNat n.toNat).toNat : Int) = n := by simp; omega
  rw [this]
theorem rd_bool {t : TypeId} {fuel : Nat} {cs : List Value} {x : DataW H × List MemPlace} (ht : P.underlying t = some .bool) (h : DataW.trod enc P w base spare held fuel t cs = some x) :
    ∃ b, RdBool w cs b := by
  obtain ⟨b, e1, _⟩ := DataW.trod_bool ht h
  exact ⟨b, e1⟩
theorem rd_str {t : TypeId} {fuel : Nat} {cs : List Value} {x : DataW H × List MemPlace} (ht : P.underlying t = some .string) (h : DataW.trod enc P w base spare held fuel t cs = some x) :
    ∃ b, RdStr w cs b := by
  obtain ⟨b, e1, _, h2⟩ := DataW.trod_string ht h
  exact ⟨b, e1, h2⟩

theorem cells_of {a : Addr} {n : Nat} {cs : List Value} (h : w.cells? base a n = some cs) : cs.length = n ∧ Cells w a cs := by
  unfold World.cells? at h
  split at h
  · have hl := mapM_some_length h
    refine ⟨by simpa using hl, fun j v hv => ?_⟩
    have hj : j < n := by have := (List.getElem?_eq_some_iff.1 hv).1; simpa [hl] using this
    have := mapM_some_get h j j (by simp [hj])
    rw [this]; exact hv
  · cases h

theorem list_of_ex {α : Type} {Q : Nat → α → Prop} (n : Nat) (h : ∀ i, i < n → ∃ a, Q i a) : ∃ l : List α, l.length = n ∧ ∀ i a, l[i]? = some a → Q i a := by
  induction n with
  | zero => exact ⟨[], rfl, fun i a hi => by simp at hi⟩
  | succ m ih =>
    obtain ⟨l, hl, hp⟩ := ih (fun i hi => h i (by omega))
    obtain ⟨am, hm⟩ := h m (by omega)
    refine ⟨l ++ [am], by simp [hl], fun i a hi => ?_⟩
    rw [List.getElem?_append] at hi
    split at hi
    · exact hp i a hi
    · rename_i hge
      have e : i = m := by
        have := (List.getElem?_eq_some_iff.1 hi).1
        simp at this; omega
      subst e
      simp [hl] at hi
      subst hi
      exact hm

/-- A slice whose elements are read. -/
theorem rd_slice {α : Type} {t e : TypeId} {sz fuel : Nat} {cs : List Value} {x : DataW H × List MemPlace} {R : World → List Value → α → Prop} (ht : P.underlying t = some (.slice e)) (hsz : P.cellsOf e = sz)
    (hR : ∀ fuel cs x, DataW.trod enc P w base spare held fuel e cs = some x → ∃ a, R w cs a)
    (h : DataW.trod enc P w base spare held fuel t cs = some x) : ∃ l, RdOne (RdSl sz R) w cs l := by
  rcases DataW.trod_slice ht h with ⟨h0, _⟩ | ⟨a, len, cap, elems, rest, n, _, rfl, _, _, h1, h2, h3, h4, _⟩
  · exact ⟨[], _, h0, none, 0, rfl, by simp, by simp, fun _ => ⟨rfl, rfl⟩, fun _ h => by cases h⟩
  · have hex : ∀ i, i < len → ∃ a', ∃ cs, cs.length = sz ∧ Cells w (a.add (i * sz)) cs ∧ R w cs a' := by
      intro i hi
      have h5 := h4 i hi
      rw [List.getElem?_eq_getElem (by omega)] at h5
      obtain ⟨cs, hc, hr⟩ := Option.bind_eq_some_iff.1 h5
      rw [hsz] at hc
      obtain ⟨c1, c2⟩ := cells_of hc
      obtain ⟨a', ha'⟩ := hR _ _ _ hr
      exact ⟨a', cs, c1, c2, ha'⟩
    obtain ⟨l, rfl, hp⟩ := list_of_ex len hex
    refine ⟨l, _, rfl, some a, cap, rfl, h1, h2, (fun h => by cases h), fun ad had i a' hi => ?_⟩
    obtain rfl := Option.some.inj had
    exact hp i a' hi

/-- A struct's fields, each by its own reading. -/
theorem rd_struct {t : TypeId} {fs : Array Field} {fuel : Nat} {cs : List Value} {x : DataW H × List MemPlace} (ht : P.underlying t = some (.struct fs)) (h : DataW.trod enc P w base spare held fuel t cs = some x) :
    cs.length = P.cellsOf t ∧ ∃ m, ∀ (i : Nat) (f : Field), fs[i]? = some f → ∃ y, DataW.trod enc P w base spare held m f.type ((cs.drop f.offset).take (P.cellsOf f.type)) = some y := by
  obtain ⟨xs, n, _, _, h1, h2, h3⟩ := DataW.trod_struct ht h
  refine ⟨h1, n, fun i f hf => ?_⟩
  have hi : i < fs.size := (Array.getElem?_eq_some_iff.1 hf).1
  exact ⟨xs[i]'(by omega), by rw [h3 i f hf, List.getElem?_eq_getElem]⟩
end

theorem Cells.spot {w : World} {a : Addr} {l : List Value} (h : Cells w a l) (hl : l ≠ []) : ∃ b o, a = ⟨b, o, none⟩ := by
  cases l with
  | nil => exact absurd rfl hl
  | cons v r =>
    have h0 := h 0 v rfl
    obtain ⟨b, o, s⟩ := a
    have e : (⟨b, o, s⟩ : Addr).add 0 = ⟨b, o, s⟩ := by simp [Addr.add]
    rw [e] at h0
    cases s with
    | none => exact ⟨b, o, rfl⟩
    | some k =>
      simp [World.cell?] at h0
      split at h0 <;> simp at h0
/-- A slice of things, opened at an index. -/
theorem RdSl.at {α : Type} {sz : Nat} {R : World → List Value → α → Prop} {w : World} {v : Value} {l : List α} (h : RdSl sz R w v l) (hz : 0 < sz) :
    ∃ sp cap, v = .slice sp l.length cap ∧ l.length ≤ cap ∧ cap ≤ maxLen ∧ (l = [] ∨ ∃ b o, sp = some ⟨b, o, none⟩ ∧ b < w.heap.size ∧ ∀ i a, l[i]? = some a → ∃ cs, cs.length = sz ∧ Cells w ⟨b, o + i * sz, none⟩ cs ∧ R w cs a) := by
  obtain ⟨sp, cap, rfl, h1, h2, h3, h4⟩ := h
  refine ⟨sp, cap, rfl, h1, h2, ?_⟩
  cases l with
  | nil => exact Or.inl rfl
  | cons a0 r =>
    cases sp with
    | none => exact absurd (h3 rfl).1 (by simp)
    | some ad =>
      obtain ⟨cs, hcs, hc, _⟩ := h4 ad rfl 0 a0 rfl
      have hne : cs ≠ [] := by rintro rfl; simp at hcs; omega
      have e : ad.add (0 * sz) = ad := by simp [Addr.add]
      rw [e] at hc
      obtain ⟨b, o, rfl⟩ := hc.spot hne
      have hb : b < w.heap.size := by
        cases cs with
        | nil => exact absurd rfl hne
        | cons v0 r0 => have := World.block_lt_of_cell? w _ (hc 0 v0 rfl); simpa [Addr.add] using this
      refine Or.inr ⟨b, o, rfl, hb, fun i a hi => ?_⟩
      obtain ⟨cs', g1, g2, g3⟩ := h4 _ rfl i a hi
      rw [add_lit] at g2
      exact ⟨cs', g1, g2, g3⟩
/-- A slice of bytes, opened. -/
theorem rd_bytes {w : World} {v : Value} {l : List UInt8} (h : RdSl 1 RdU8 w v l) :
    ∃ sp cap, v = .slice sp l.length cap ∧ l.length ≤ cap ∧ cap ≤ maxLen ∧ (l = [] ∨ ∃ b o, sp = some ⟨b, o, none⟩ ∧ b < w.heap.size ∧ Cells w ⟨b, o, none⟩ (l.map u8v)) := by
  obtain ⟨sp, cap, h1, h2, h3, h4⟩ := h.at (by decide)
  refine ⟨sp, cap, h1, h2, h3, ?_⟩
  rcases h4 with h4 | ⟨b, o, rfl, hb, h5⟩
  · exact Or.inl h4
  · refine Or.inr ⟨b, o, rfl, hb, fun j v hj => ?_⟩
    rw [List.getElem?_map] at hj
    obtain ⟨a, ha, rfl⟩ := Option.map_eq_some_iff.1 hj
    obtain ⟨cs, _, g2, g3⟩ := h5 j a ha
    obtain rfl : cs = [u8v a] := g3
    have := g2 0 _ rfl
    rw [add_lit] at this ⊢
    simpa using this

end Go.Proofs.Ytjdkdakepomhdaa
