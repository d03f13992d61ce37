/- A map from int to pointers, as a function. -/
import Derived.Test.YtjdkdakepomhdaaAgE
import Derived.Maps.OwnSet
namespace Go.Proofs.Ytjdkdakepomhdaa
open Go.RowKit
open Go.Maps (Keyed)

/-- How a pointer in the map reads. -/
def ptrR : Value → Option (DataW Unit × List MemPlace)
  | .pointer none => some (.nil, [])
  | .pointer (some a) => if a = ⟨a.block, 0, none⟩ then some (.lit (.int .i64 a.block), []) else none
  | _ => none
def ptrV : Option Nat → Value
  | none => .pointer none
  | some b => .pointer (some ⟨b, 0, none⟩)
def ptrD : Option Nat → DataW Unit
  | none => .nil
  | some b => .lit (.int .i64 b)
theorem ptrR_mk (o : Option Nat) : ptrR (ptrV o) = some (ptrD o, []) := by
  cases o with
  | none => rfl
  | some b => simp [ptrR, ptrV, ptrD]
theorem ptrR_inv {v : Value} {o : Option Nat} {ps : List MemPlace} (h : ptrR v = some (ptrD o, ps)) : v = ptrV o := by
  unfold ptrR at h
  split at h
  · cases o with
    | none => rfl
    | some b => simp [ptrD] at h
  · rename_i a
    split at h
    · rename_i ha
      cases o with
      | none => simp [ptrD] at h
      | some b =>
        simp [ptrD] at h
        rw [ha]
        have : a.block = b := by omega
        rw [this]; rfl
    · cases h
  · cases h

/-- Block m is a map of at most n entries that holds M. -/
def MapIs (w : World) (m n : Nat) (M : Int → Option Nat) : Prop :=
  ∃ D : DataW Unit, w.ownsMap Try.prog 3 ptrR m n D ∧ ∀ x : Int, (Lit.int .i64 x).wf = true → D.atKey (.int .i64 x) .nil = ptrD (M x) ∧ Maps.has D (.int .i64 x) = (M x).isSome

theorem Try.keyI : Keyed Try.prog 3 := Maps.int_keyed Try.underlying3
theorem Try.keyOfI {x : Int} (h : (Lit.int .i64 x).wf = true) : keyOf Try.prog 3 (.int .i64 x) = some (.int .i64 x) := Maps.keyOf_int_mk Try.underlying3 h

theorem MapIs.new (w : World) : MapIs (w.alloc (.map #[] 0)) w.heap.size 0 (fun _ => none) :=
  ⟨.map [], World.ownsMap_made w _ _ _, fun _ _ => ⟨rfl, rfl⟩⟩
theorem MapIs.mono {w : World} {m n n' : Nat} {M : Int → Option Nat} (h : MapIs w m n M) (hn : n ≤ n') : MapIs w m n' M := by
  obtain ⟨D, h1, h2⟩ := h; exact ⟨D, h1.mono hn, h2⟩
theorem MapIs.obj {w : World} {m n : Nat} {M : Int → Option Nat} (h : MapIs w m n M) : ∃ es c, w.heap[m]? = some (.map es c) := by
  obtain ⟨D, ⟨es, c, h1, _⟩, _⟩ := h; exact ⟨es, c, h1⟩
theorem MapIs.lt {w : World} {m n : Nat} {M : Int → Option Nat} (h : MapIs w m n M) : m < w.heap.size := by
  obtain ⟨es, c, h⟩ := h.obj; exact lt_of_heap h
theorem MapIs.same {w w' : World} {m n : Nat} {M : Int → Option Nat} (h : MapIs w m n M) (e : w'.heap[m]? = w.heap[m]?) : MapIs w' m n M := by
  obtain ⟨D, ⟨es, c, h1, h2⟩, h3⟩ := h; exact ⟨D, ⟨es, c, e.trans h1, h2⟩, h3⟩
theorem MapIs.fr {S : List Nat} {w w' : World} {m n : Nat} {M : Int → Option Nat} (h : MapIs w m n M) (hf : Fr S w w') (hs : m ∉ S) : MapIs w' m n M := h.same (hf.block m h.lt hs)
theorem MapIs.congr {w : World} {m n : Nat} {M M' : Int → Option Nat} (h : MapIs w m n M) (e : ∀ x, (Lit.int .i64 x).wf = true → M' x = M x) : MapIs w m n M' := by
  obtain ⟨D, h1, h2⟩ := h; exact ⟨D, h1, fun x hx => by rw [e x hx]; exact h2 x hx⟩
theorem Fr.turned {S : List Nat} {w w' : World} {m : Nat} (h : w.mapTurned w' m) (hm : m ∈ S) : Fr S w w' :=
  (Fr.refl S w).grown h.grown (fun k hk => Or.inl (by obtain rfl := Option.some.inj hk; exact hm))

theorem MapIs.look {w : World} {m n : Nat} {M : Int → Option Nat} (h : MapIs w m n M) {x : Int} (hx : (Lit.int .i64 x).wf = true) :
    (Instr.lookup 66 (.map (some m)) (.int .i64 x) true).run Try.prog w = .ok (.tuple #[ptrV (M x), .bool (M x).isSome]) w := by
  obtain ⟨D, h1, h2⟩ := h
  obtain ⟨v, ps, hr, hv⟩ := h1.look_ok (e := 71) Try.keyI Try.underlying66 (z := .pointer none) (by kernel_rfl) (zd := .nil) (zp := []) rfl (Try.keyOfI hx)
  rw [(h2 x hx).1] at hv
  rw [hr, ptrR_inv hv, (h2 x hx).2]

theorem lit_ne {x y : Int} (h : y ≠ x) : (Lit.int .i64 y) ≠ (Lit.int .i64 x) := fun e => h (by injection e)
theorem MapIs.store {w : World} {m n : Nat} {M : Int → Option Nat} (h : MapIs w m n M) (hn : n < maxLen) {x : Int} (hx : (Lit.int .i64 x).wf = true) (b : Nat) :
    ∃ w', (Instr.mapUpdate 66 (.map (some m)) (.int .i64 x) (.pointer (some ⟨b, 0, none⟩))).run Try.prog w = .ok () w' ∧ MapIs w' m (n + 1) (fun y => if y = x then some b else M y) ∧ w.mapTurned w' m := by
  obtain ⟨D, h1, h2⟩ := h
  obtain ⟨w', hr, ho, ht⟩ := h1.store (e := 71) Try.keyI Try.underlying66 hn (Try.keyOfI hx) (ptrR_mk (some b))
  refine ⟨w', hr, ⟨_, ho, fun y hy => ?_⟩, ht⟩
  dsimp only
  by_cases e : y = x
  · subst e
    rw [if_pos rfl]
    exact ⟨Maps.atKey_put_same h1.isMap (by first | exact trivial | exact ⟨_, _, rfl⟩ | simp [WideAt.IsKeyLit]) _ _, Maps.has_put_same h1.isMap (by first | exact trivial | exact ⟨_, _, rfl⟩ | simp [WideAt.IsKeyLit]) _⟩
  · rw [if_neg e, Maps.atKey_put_other (lit_ne e), Maps.has_put_other (lit_ne e)]
    exact h2 y hy
theorem MapIs.drop {w : World} {m n : Nat} {M : Int → Option Nat} (h : MapIs w m n M) {x : Int} (hx : (Lit.int .i64 x).wf = true) (ty : TypeId) :
    ∃ w', (Builtin.delete_ #[66, 3] ty #[.map (some m), .int .i64 x]).run Try.prog w = .ok (.tuple #[]) w' ∧ MapIs w' m n (fun y => if y = x then none else M y) ∧ w.mapTurned w' m := by
  obtain ⟨D, h1, h2⟩ := h
  obtain ⟨w', hr, ho, ht⟩ := h1.drop (e := 71) Try.keyI Try.underlying66 (Try.keyOfI hx) ty
  refine ⟨w', hr, ⟨_, ho, fun y hy => ?_⟩, ht⟩
  dsimp only
  by_cases e : y = x
  · subst e
    rw [if_pos rfl]
    exact ⟨Maps.atKey_del_same _, Maps.has_del_same⟩
  · rw [if_neg e, Maps.atKey_del_other (lit_ne e), Maps.has_del_other (lit_ne e)]
    exact h2 y hy
end Go.Proofs.Ytjdkdakepomhdaa
