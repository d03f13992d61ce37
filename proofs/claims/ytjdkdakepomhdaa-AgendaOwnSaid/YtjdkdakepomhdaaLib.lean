/- What the proofs of this seat share: frames of memory, rows of bytes. No program in sight. -/
import Derived.WalkKit
import Derived.KernelRfl
import Derived.WalkSpells
import Derived.WalkLawsBesides
import Derived.Laws.CopyOwn
import Derived.Laws.AppendOwn
import Derived.Laws.IdiomCopy
import Derived.Deep.Draws
import Derived.Laws.BytesArg
import Derived.Lib.Hide
namespace Go.Proofs.Ytjdkdakepomhdaa
open Go.RowKit

/-- The blocks outside S are as they were. -/
structure Fr (S : List Nat) (w w' : World) : Prop where
  os : w'.os = w.os
  tape : w'.tape = w.tape
  output : w'.output = w.output
  size : w.heap.size ≤ w'.heap.size
  block : ∀ k, k < w.heap.size → k ∉ S → w'.heap[k]? = w.heap[k]?

theorem heap_new (w : World) (o : Obj) : (w.alloc o).heap[w.heap.size]? = some o := heap_alloc_new w o
theorem heap_old (w : World) (o : Obj) (k : Nat) (h : k < w.heap.size) : (w.alloc o).heap[k]? = w.heap[k]? := Below.heap_alloc w o k h
theorem lt_of_heap {w : World} {k : Nat} {o : Obj} (h : w.heap[k]? = some o) : k < w.heap.size := (Array.getElem?_eq_some_iff.1 h).1

theorem Fr.refl (S : List Nat) (w : World) : Fr S w w := ⟨rfl, rfl, rfl, Nat.le_refl _, fun _ _ _ => rfl⟩
theorem Fr.alloc {S : List Nat} {w0 w : World} (h : Fr S w0 w) (o : Obj) : Fr S w0 (w.alloc o) :=
  ⟨h.os, h.tape, h.output, by have := h.size; simp; omega, fun k hk hs => by rw [heap_old _ _ _ (Nat.lt_of_lt_of_le hk h.size)]; exact h.block k hk hs⟩
theorem Fr.drew {S : List Nat} {w0 w : World} (h : Fr S w0 w) : Fr S w0 w.drew := ⟨h.os, h.tape, h.output, h.size, h.block⟩
theorem Fr.drewN {S : List Nat} {w0 w : World} (h : Fr S w0 w) (n : Nat) : Fr S w0 (w.drewN n) := ⟨h.os, h.tape, h.output, h.size, h.block⟩
theorem Fr.set {S : List Nat} {w0 w : World} (h : Fr S w0 w) {p : Addr} (hp : p.block ∈ S ∨ w0.heap.size ≤ p.block) (u : Value) : Fr S w0 (w.setCell p u) :=
  ⟨h.os, h.tape, h.output, by have := h.size; simp [World.setCell]; omega, fun k hk hs => by
    rw [Below.heap_setCell]
    · exact h.block k hk hs
    · rintro rfl; rcases hp with hp | hp
      · exact hs hp
      · omega⟩
theorem Fr.setRow {S : List Nat} {w0 w : World} (h : Fr S w0 w) {g : Nat} (hp : g ∈ S ∨ w0.heap.size ≤ g) (cs : Array Value) : Fr S w0 (w.setRow g cs) :=
  ⟨h.os, h.tape, h.output, by have := h.size; simp [World.setRow]; omega, fun k hk hs => by
    rw [setRow_other]
    · exact h.block k hk hs
    · rintro rfl; rcases hp with hp | hp
      · exact hs hp
      · omega⟩
theorem Fr.trans {S T : List Nat} {a b c : World} (h : Fr S a b) (k : Fr T b c) (hT : ∀ x ∈ T, x ∈ S ∨ a.heap.size ≤ x) : Fr S a c :=
  ⟨k.os.trans h.os, k.tape.trans h.tape, k.output.trans h.output, Nat.le_trans h.size k.size, fun i hi hs => by
    rw [k.block i (Nat.lt_of_lt_of_le hi h.size), h.block i hi hs]
    intro ht; rcases hT i ht with h1 | h1
    · exact hs h1
    · omega⟩
theorem Fr.mono {S T : List Nat} {a b : World} (h : Fr S a b) (hT : ∀ x ∈ S, x ∈ T ∨ a.heap.size ≤ x) : Fr T a b :=
  ⟨h.os, h.tape, h.output, h.size, fun i hi hs => h.block i hi (fun hm => by
    rcases hT i hm with h1 | h1
    · exact hs h1
    · omega)⟩
theorem Fr.below {S : List Nat} {a b : World} (h : Fr S a b) {B : Nat} (hB : B ≤ a.heap.size) (hS : ∀ x ∈ S, B ≤ x) : Below B a b :=
  ⟨h.os, h.tape, h.output, h.size, fun k hk => h.block k (by omega) (fun hm => by have := hS k hm; omega)⟩
theorem Fr.grown {S : List Nat} {a b c : World} (h : Fr S a b) {row : Option Nat} (hg : b.grownBy c row) (hr : ∀ k, row = some k → k ∈ S ∨ a.heap.size ≤ k) : Fr S a c :=
  ⟨hg.os.trans h.os, hg.tape.trans h.tape, hg.output.trans h.output, Nat.le_trans h.size hg.size, fun i hi hs => by
    rw [hg.block i (Nat.lt_of_lt_of_le hi h.size), h.block i hi hs]
    intro ht; rcases hr i ht.symm with h1 | h1
    · exact hs h1
    · omega⟩
theorem Fr.heap {S : List Nat} {w w' : World} (h : Fr S w w') {k : Nat} {o : Obj} (hk : w.heap[k]? = some o) (hs : k ∉ S) : w'.heap[k]? = some o := by
  rw [h.block k (lt_of_heap hk) hs]; exact hk
theorem Fr.cell {S : List Nat} {w w' : World} (h : Fr S w w') {p : Addr} {v : Value} (hk : w.cell? p = some v) (hs : p.block ∉ S) : w'.cell? p = some v := by
  rw [World.cell?_of_block (h.block p.block (World.block_lt_of_cell? w p hk) hs)]; exact hk

/-- A block's cells. -/
theorem blk_cell {w : World} {b : Nat} {cs : Array Value} {t : TypeId} {fr : Nat × Nat} (h : w.heap[b]? = some (.cells cs t fr)) (i : Nat) : w.cell? ⟨b, i, none⟩ = cs[i]? := by
  simp [World.cell?, h]
theorem blk_cell' {w : World} {b : Nat} {cs : Array Value} {t : TypeId} {fr : Nat × Nat} (h : w.heap[b]? = some (.cells cs t fr)) {i : Nat} {v : Value} (hv : cs[i]? = some v) : w.cell? ⟨b, i, none⟩ = some v := by
  rw [blk_cell h, hv]
theorem blk_free {w : World} {b : Nat} {cs : Array Value} {t : TypeId} (h : w.heap[b]? = some (.cells cs t (0, 0))) (i : Nat) : w.frozen? ⟨b, i, none⟩ = false := by
  simp [World.frozen?, h]
theorem blk_set {w : World} {b : Nat} {cs : Array Value} {t : TypeId} {fr : Nat × Nat} (h : w.heap[b]? = some (.cells cs t fr)) (i : Nat) (v : Value) :
    (w.setCell ⟨b, i, none⟩ v).heap[b]? = some (.cells (cs.setIfInBounds i v) t fr) := by
  simp [World.setCell, Array.getElem?_modify, h]
theorem blk_far {w : World} {b : Nat} {o : Obj} (h : w.heap[b]? = some o) {p : Addr} (hp : b ≠ p.block) (v : Value) : (w.setCell p v).heap[b]? = some o := by
  rw [Below.heap_setCell _ _ _ _ hp]; exact h
theorem blk_alloc {w : World} {b : Nat} {o : Obj} (h : w.heap[b]? = some o) (o' : Obj) : (w.alloc o').heap[b]? = some o := by
  rw [heap_old _ _ _ (lt_of_heap h)]; exact h

/-- The cells from an address on. -/
def Cells (w : World) (a : Addr) (l : List Value) : Prop := ∀ j v, l[j]? = some v → w.cell? (a.add j) = some v
theorem Cells.fr {S : List Nat} {w w' : World} {a : Addr} {l : List Value} (h : Cells w a l) (hf : Fr S w w') (hs : l ≠ [] → a.block ∉ S) : Cells w' a l := fun j v hv => by
  refine hf.cell (h j v hv) ?_
  have : (a.add j).block = a.block := by unfold Addr.add; split <;> rfl
  rw [this]; exact hs (by rintro rfl; simp at hv)
theorem add_lit (b o j : Nat) : (⟨b, o, none⟩ : Addr).add j = ⟨b, o + j, none⟩ := Addr.add_lit b o j
theorem Cells.lit {w : World} {b o : Nat} {l : List Value} (h : Cells w ⟨b, o, none⟩ l) (j : Nat) (v : Value) (hv : l[j]? = some v) : w.cell? ⟨b, o + j, none⟩ = some v := by
  rw [← add_lit]; exact h j v hv
theorem Cells.of_blk {w : World} {b : Nat} {cs : Array Value} {t : TypeId} {fr : Nat × Nat} (h : w.heap[b]? = some (.cells cs t fr)) (o : Nat) (l : List Value) (hl : ∀ j v, l[j]? = some v → cs[o + j]? = some v) : Cells w ⟨b, o, none⟩ l := fun j v hv => by
  rw [add_lit, blk_cell h]; exact hl j v hv
theorem Cells.sub {w : World} {b o : Nat} {l : List Value} (h : Cells w ⟨b, o, none⟩ l) (n m : Nat) : Cells w ⟨b, o + n, none⟩ ((l.drop n).take m) := fun j v hv => by
  rw [add_lit, Nat.add_assoc, ← add_lit]
  refine h (n + j) v ?_
  rw [List.getElem?_take] at hv
  split at hv
  · rw [List.getElem?_drop] at hv; exact hv
  · cases hv

/-- A byte in a cell. -/
def u8v (b : UInt8) : Value := .int .u8 b.toNat
theorem u8v_one (l : List UInt8) : ∀ v ∈ l.map u8v, v.oneCell' = true := by
  intro v hv; obtain ⟨b, _, rfl⟩ := List.mem_map.1 hv; rfl
theorem madeU8 (n : Nat) : madeCells #[Value.int .u8 0] n = (List.replicate n (u8v 0)).toArray := by
  apply Array.toList_inj.1
  rw [toList_madeCells_one]; simp [u8v]

/-- make([]byte, n). -/
theorem run_make_u8 {P : Program} (T E : TypeId) (i : TypeInfo) (hT : P.underlying T = some (.slice E)) (hi : P.info? E = some i) (hz0 : i.zero = some (.int .u8 0)) (hz1 : i.size = 1) (hz2 : i.bytes = 1)
    (n : Int) (h0 : 0 ≤ n) (h : n ≤ 281474976710656) (w : World) :
    (Instr.makeSlice T (.int .i64 n) (.int .i64 n)).run P w = .ok (.slice (some ⟨w.heap.size, 0, none⟩) n.toNat n.toNat) (w.alloc (.cells (List.replicate n.toNat (u8v 0)).toArray E)) := by
  have h1 := run_make (P := P) w T E i (.int .u8 0) hT hi hz0 .i64 .i64 n n h0 (by omega) (by rw [hz2]; omega) (by omega)
  rw [hz1, show n.toNat * 1 = n.toNat by omega] at h1
  rw [h1]
  show Result.ok _ (w.alloc (.cells (madeCells #[Value.int .u8 0] n.toNat) E)) = _
  rw [madeU8]

theorem setCells_blk {b : Nat} {t : TypeId} {fr : Nat × Nat} : ∀ (vs : List Value) (o : Nat) (w : World) (cs : List Value), w.heap[b]? = some (.cells cs.toArray t fr) → o + vs.length ≤ cs.length →
    (w.setCells b o vs).heap[b]? = some (.cells (splice cs o vs).toArray t fr)
  | [], o, w, cs, h, _ => by simpa [World.setCells, splice] using h
  | v :: r, o, w, cs, h, hl => by
    simp only [List.length_cons] at hl
    have h1 := blk_set h o v
    rw [List.setIfInBounds_toArray] at h1
    have h2 := setCells_blk r (o + 1) _ _ h1 (by simp; omega)
    rw [World.setCells, h2]
    congr 3
    unfold splice
    apply List.ext_getElem?
    intro i
    simp only [List.getElem?_append, List.length_take, List.length_set, List.getElem?_take, List.getElem?_drop, List.getElem?_set, List.getElem?_cons, List.length_cons]
    have e1 : min (o + 1) cs.length = o + 1 := by omega
    have e2 : min o cs.length = o := by omega
    rw [e1, e2]
    by_cases c1 : i < o
    · simp [c1, show i < o + 1 by omega, show ¬ o = i by omega]
    · by_cases c2 : i = o
      · subst c2; simp; omega
      · have c3 : ¬ i < o + 1 := by omega
        simp only [c1, c3, if_false]
        have c4 : ¬ i - o = 0 := by omega
        by_cases c5 : i - (o + 1) < r.length
        · simp [c4, c5, show i - o < r.length + 1 by omega, show i - o - 1 = i - (o + 1) by omega]
        · simp only [c5, if_false, show ¬ i - o < r.length + 1 by omega]
          rw [if_neg (by omega)]
          congr 1; omega
theorem Fr.setCells {S : List Nat} {w0 : World} {g : Nat} (hp : g ∈ S ∨ w0.heap.size ≤ g) : ∀ (vs : List Value) (o : Nat) (w : World), Fr S w0 w → Fr S w0 (w.setCells g o vs)
  | [], _, _, h => h
  | v :: r, o, _, h => by rw [World.setCells]; exact Fr.setCells hp r (o + 1) _ (h.set hp v)

/-- string(b), b bytes that lie somewhere. -/
theorem run_conv_u8 {P : Program} {S T E : TypeId} (hS : P.underlying S = some (.slice E)) (hE : P.underlying E = some (.int .u8)) (hT : P.underlying T = some .string) {w : World} {b o : Nat} {l : List UInt8} (h : Cells w ⟨b, o, none⟩ (l.map u8v)) (n cap : Nat) (hn : l.length = n) :
    (convert S T (.slice (some ⟨b, o, none⟩) n cap)).run P w = .ok (.string ⟨l.toArray⟩) w := by
  subst hn
  have hr := run_convert_bytes_arg (P := P) w S E hS hE b o l.length cap (l.map fun x => (x.toNat : Int)) (by simp) (fun i hi => by
    rw [← add_lit, h i (u8v l[i]) (by simp [hi])]
    simp [u8v, hi]) T hT
  rw [hr]
  congr 2
  unfold strOfNums
  congr 2
  rw [List.map_map]
  conv => rhs; rw [← List.map_id l]
  refine List.map_congr_left fun x _ => ?_
  simp

/-- What is owned, opened. -/
theorem own_open {w : World} {base n : Nat} {E : TypeId} {v : Value} {xs : List Value} (h : w.ownsRow base E 1 v n xs) (hv : v ≠ .slice none 0 0) :
    ∃ g cap rest, v = .slice (some ⟨g, 0, none⟩) n cap ∧ base ≤ g ∧ w.heap[g]? = some (.cells (xs ++ rest).toArray E (0, 0)) ∧ xs.length = n ∧ (xs ++ rest).length = cap ∧ cap ≤ maxLen := by
  obtain ⟨h1, h2⟩ := h
  rcases h2 with ⟨h2, _⟩ | ⟨g, cap, cur, rfl, hg, hh, hn, hc, hs, ht⟩
  · exact absurd h2 hv
  · rw [Nat.mul_one] at ht hs h1
    refine ⟨g, cap, cur.toList.drop n, rfl, hg, ?_, h1, ?_, hc⟩
    · rw [← ht, List.take_append_drop]; exact hh
    · rw [← ht, List.take_append_drop]; simpa using hs
theorem cells_append {w : World} {g : Nat} {xs rest : List Value} {E : TypeId} (h : w.heap[g]? = some (.cells (xs ++ rest).toArray E (0, 0))) : Cells w ⟨g, 0, none⟩ xs :=
  Cells.of_blk h 0 xs (fun j v hv => by
    have hj := (List.getElem?_eq_some_iff.1 hv).1
    rw [Nat.zero_add, List.getElem?_toArray, List.getElem?_append_left hj]; exact hv)

/-- A contract that leaves the world, as a quiet region asks it. -/
theorem quiet_call {P : Program} {f : FuncId} {args : Array Value} {w : World} {n : Nat} {v : Value} (h : Calls P f args (w.drewN n) fun e w' => e = .returned v ∧ w.drewN n = w') :
    Calls P f args (w.drewN n) fun e w'' => e = .returned v ∧ ∃ m, w'' = w.drewN m :=
  h.mono fun _ _ ⟨he, hm⟩ => ⟨he, n, hm.symm⟩

end Go.Proofs.Ytjdkdakepomhdaa
