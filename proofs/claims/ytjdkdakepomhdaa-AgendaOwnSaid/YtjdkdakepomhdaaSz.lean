/- Slices of elements of several cells, each in a block of its own; append onto them. No program in sight. -/
import Derived.Test.YtjdkdakepomhdaaBook2
namespace Go.Proofs.Ytjdkdakepomhdaa
open Go.RowKit

/-- A slice: its block, how many elements, how many more fit; their cells. -/
structure Ks where
  g : Nat
  n : Nat
  c : Nat
  l : List Value
  spare : List Value
def Ks.val (k : Ks) : Value := .slice (some ⟨k.g, 0, none⟩) k.n (k.n + k.c)
structure Ks.Lies (w : World) (E : TypeId) (s : Nat) (k : Ks) : Prop where
  heap : w.heap[k.g]? = some (.cells (k.l ++ k.spare).toArray E (0, 0))
  ll : k.l.length = k.n * s
  ls : k.spare.length = k.c * s
  capLe : k.n + k.c ≤ maxLen
def sval : Option Ks → Value
  | none => .slice none 0 0
  | some k => k.val
def sl : Option Ks → List Value
  | none => []
  | some k => k.l
def sn : Option Ks → Nat
  | none => 0
  | some k => k.n
def sc : Option Ks → Nat
  | none => 0
  | some k => k.n + k.c
def sad : Option Ks → Option Addr
  | none => none
  | some k => some ⟨k.g, 0, none⟩
def sok (w : World) (E : TypeId) (s : Nat) : Option Ks → Prop
  | none => True
  | some k => k.Lies w E s
def sg : Option Ks → List Nat
  | none => []
  | some k => [k.g]
theorem sval_eq (k : Option Ks) : sval k = .slice (sad k) (sn k) (sc k) := by cases k <;> rfl
theorem Ks.Lies.lt {w : World} {E : TypeId} {s : Nat} {k : Ks} (h : k.Lies w E s) : k.g < w.heap.size := lt_of_heap h.heap
theorem Ks.Lies.fr {S : List Nat} {w w' : World} {E : TypeId} {s : Nat} {k : Ks} (h : k.Lies w E s) (hf : Fr S w w') (hs : k.g ∉ S) : k.Lies w' E s := ⟨hf.heap h.heap hs, h.ll, h.ls, h.capLe⟩
theorem sok.fr {S : List Nat} {w w' : World} {E : TypeId} {s : Nat} {k : Option Ks} (h : sok w E s k) (hf : Fr S w w') (hs : ∀ x ∈ sg k, x ∉ S) : sok w' E s k := by
  cases k with
  | none => trivial
  | some k => exact Ks.Lies.fr h hf (hs _ (by simp [sg]))
theorem sok.lt {w : World} {E : TypeId} {s : Nat} {k : Option Ks} (h : sok w E s k) : ∀ x ∈ sg k, x < w.heap.size := by
  cases k with
  | none => simp [sg]
  | some k => intro x hx; obtain rfl : x = k.g := by simpa [sg] using hx
              exact Ks.Lies.lt h
theorem sok.len {w : World} {E : TypeId} {s : Nat} {k : Option Ks} (h : sok w E s k) : (sl k).length = sn k * s := by
  cases k with
  | none => simp [sl, sn]
  | some k => exact Ks.Lies.ll h
theorem Ks.Lies.cells {w : World} {E : TypeId} {s : Nat} {k : Ks} (h : k.Lies w E s) : Cells w ⟨k.g, 0, none⟩ k.l :=
  Cells.of_blk h.heap _ _ (fun j v hv => by
    have hj := (List.getElem?_eq_some_iff.1 hv).1
    rw [List.getElem?_toArray, Nat.zero_add, List.getElem?_append_left hj]; exact hv)
theorem Ks.Lies.cellAt {w : World} {E : TypeId} {s : Nat} {k : Ks} (h : k.Lies w E s) (i : Nat) (v : Value) (hv : k.l[i]? = some v) : w.cell? ⟨k.g, i, none⟩ = some v := by
  have := h.cells.lit i v hv; rwa [Nat.zero_add] at this
theorem Ks.Lies.free {w : World} {E : TypeId} {s : Nat} {k : Ks} (h : k.Lies w E s) (i : Nat) : w.frozen? ⟨k.g, i, none⟩ = false := blk_free h.heap i

/-- A piece of a slice, or nothing. -/
def Src (w : World) (x : Value) (m : Nat) (news : List Value) : Prop := (m = 0 ∧ news = [] ∧ ∃ p c, x = .slice p 0 c) ∨ ∃ ad c, x = .slice (some ad) m c ∧ Cells w ad news
theorem Src.of_cells {w : World} {ad : Addr} {m c : Nat} {news : List Value} (h : Cells w ad news) : Src w (.slice (some ad) m c) m news := Or.inr ⟨ad, c, rfl, h⟩

/-- What an append leaves. -/
structure AppS (w : World) (E : TypeId) (s : Nat) (k : Option Ks) (m : Nat) (news : List Value) (v' : Value) (w' : World) : Prop where
  ex : ∃ k', v' = sval k' ∧ sok w' E s k' ∧ sl k' = sl k ++ news ∧ sn k' = sn k + m ∧ (∀ x ∈ sg k', x ∈ sg k ∨ w.heap.size ≤ x)
  fr : Fr (sg k) w w'

section
variable {P : Program} {w : World}
theorem run_apps (t ty E : TypeId) (i : TypeInfo) (z : Value) (bytes s : Nat) (ht : P.underlying t = some (.slice E)) (hi : P.info? E = some i) (hz : i.zero = some z) (hs : i.size = s) (hb : i.bytes = bytes) (hz1 : z.cells.size = s)
    (k : Option Ks) (hk : sok w E s k) (x : Value) (m : Nat) (news : List Value) (hx : Src w x m news) (hm : news.length = m * s) (h1 : ∀ v ∈ news, v.oneCell' = true)
    (hlim : (sn k + m) * bytes ≤ 140737488355328) (hlim2 : sn k + m ≤ maxLen) :
    ∃ v' w', (Builtin.append_ #[t, t] ty #[sval k, x]).run P w = .ok v' w' ∧ AppS w E s k m news v' w' := by
  subst hs
  rcases hx with ⟨rfl, rfl, p, c, rfl⟩ | ⟨ad, c, rfl, hc⟩
  · refine ⟨sval k, w, ?_, ⟨⟨k, rfl, hk, by simp, rfl, fun x hx => Or.inl hx⟩, Fr.refl _ _⟩⟩
    have hf : (Builtin.firstCells i.size 0 (.slice p 0 c)).run P w = .ok #[] w := by
      cases p with
      | none => simp [Builtin.firstCells]
      | some ad => exact run_firstCells_some (P := P) w i.size 0 ad 0 c [] (by simp) (by simp)
    cases k with
    | none => simp [sval, Builtin.append_, run_underlying ht, sizeOf, typeInfo, hi, Builtin.lenOf, hf]
    | some k => simp [sval, Ks.val, Builtin.append_, run_underlying ht, sizeOf, typeInfo, hi, Builtin.lenOf, hf, storeCells, Result.andThen]
  · cases k with
    | none =>
      by_cases hn : m = 0
      · subst hn
        obtain rfl : news = [] := by simpa using hm
        have hf := run_firstCells_some (P := P) w i.size 0 ad 0 c [] (by simp) (by simp)
        refine ⟨.slice none 0 0, w, ?_, ⟨⟨none, rfl, trivial, by simp, rfl, fun x hx => Or.inl hx⟩, Fr.refl _ _⟩⟩
        simp [sval, Builtin.append_, run_underlying ht, sizeOf, typeInfo, hi, Builtin.lenOf, hf]
      · simp only [sn, Nat.zero_add] at hlim hlim2
        have hr := run_append_nil (P := P) (w := w) t ty E i z ht hi hz ad m c news hm hc (by omega) (by unfold maxLen at hlim2; omega) (by rw [hb]; omega)
        have hge := grownCap_ge w m 0 E
        have hle := grownCap_le_maxLen w m 0 E hlim2
        generalize grownCap w m 0 E = G at *
        have hzl : (Builtin.zeroCells z.cells (G - m)).toList.length = (G - m) * i.size := by rw [Array.length_toList, size_zeroCells, hz1]
        refine ⟨_, _, hr, ⟨⟨some ⟨w.heap.size, m, G - m, news, (Builtin.zeroCells z.cells (G - m)).toList⟩, ?_, ⟨?_, hm, hzl, ?_⟩, by simp [sl], by simp [sn], fun x hx => Or.inr ?_⟩, (((Fr.refl [] _).drew.alloc _).mono (fun x hx => by cases hx))⟩⟩
        · simp only [sval, Ks.val]; congr 1; omega
        · show (w.drew.alloc _).heap[w.heap.size]? = _
          rw [show w.heap.size = w.drew.heap.size from rfl, heap_new]
          simp
        · show m + (G - m) ≤ maxLen; omega
        · obtain rfl : x = w.heap.size := by simpa [sg] using hx
          exact Nat.le_refl _
    | some k =>
      have hkc := Ks.Lies.cells hk
      have hco := Ks.Lies.capLe hk
      have hll := Ks.Lies.ll hk
      have hls := Ks.Lies.ls hk
      by_cases hroom : k.n + m ≤ k.n + k.c
      · have hmc : m * i.size ≤ k.c * i.size := Nat.mul_le_mul_right _ (by omega)
        have hr := run_append_room_cells (P := P) w t ty E i ht hi k.g 0 k.n (k.n + k.c) ad m c news hm hc h1 hroom (fun j hj => by
          rw [blk_cell (Ks.Lies.heap hk), List.getElem?_toArray, List.getElem?_eq_getElem (by simp; omega)]; rfl) (fun j hj => by rw [blk_free (Ks.Lies.heap hk)])
        rw [Nat.zero_add] at hr
        have hF : Fr [k.g] w (w.setCells k.g (k.n * i.size) news) := Fr.setCells (by simp) _ _ _ (Fr.refl _ _)
        refine ⟨_, _, hr, ⟨⟨some ⟨k.g, k.n + m, k.c - m, k.l ++ news, k.spare.drop news.length⟩, ?_, ⟨?_, ?_, ?_, ?_⟩, rfl, rfl, fun x hx => Or.inl hx⟩, hF⟩⟩
        · simp only [sval, Ks.val]; congr 1; omega
        · rw [show (⟨k.g, k.n + m, k.c - m, k.l ++ news, k.spare.drop news.length⟩ : Ks).g = k.g from rfl, setCells_blk news _ w _ (Ks.Lies.heap hk) (by simp; omega)]
          congr 3
          unfold splice
          rw [← hll, List.take_left, ← List.drop_drop, List.drop_left, List.append_assoc]
        · simp only [List.length_append]; rw [hll, hm, Nat.add_mul]
        · simp only [List.length_drop]; rw [hls, hm, Nat.sub_mul]
        · simp only; omega
      · have hlim' : (k.n + m) * bytes ≤ 140737488355328 := hlim
        have hlim2' : k.n + m ≤ maxLen := hlim2
        have hr := run_append_grow (P := P) (w := w) t ty E i z ht hi hz ⟨k.g, 0, none⟩ k.n (k.n + k.c) k.l hll hkc ad m c news hm hc (by omega) (by unfold maxLen at hlim2'; omega)
          (by rw [hb]; exact growslice_fits (by omega) hlim')
        have hge := grownCap_ge w (k.n + m) (k.n + k.c) E
        have hle := grownCap_le_maxLen w (k.n + m) (k.n + k.c) E hlim2'
        generalize grownCap w (k.n + m) (k.n + k.c) E = G at *
        have hzl : (Builtin.zeroCells z.cells (G - (k.n + m))).toList.length = (G - (k.n + m)) * i.size := by rw [Array.length_toList, size_zeroCells, hz1]
        refine ⟨_, _, hr, ⟨⟨some ⟨w.heap.size, k.n + m, G - (k.n + m), k.l ++ news, (Builtin.zeroCells z.cells (G - (k.n + m))).toList⟩, ?_, ⟨?_, ?_, hzl, ?_⟩, rfl, rfl, fun x hx => Or.inr ?_⟩, (((Fr.refl [] _).drew.alloc _).mono (fun x hx => by cases hx))⟩⟩
        · simp only [sval, Ks.val]; congr 1; omega
        · show (w.drew.alloc _).heap[w.heap.size]? = _
          rw [show w.heap.size = w.drew.heap.size from rfl, heap_new]
          simp
        · simp only [List.length_append]; rw [hll, hm, Nat.add_mul]
        · show k.n + m + (G - (k.n + m)) ≤ maxLen; omega
        · obtain rfl : x = w.heap.size := by simpa [sg] using hx
          exact Nat.le_refl _
theorem wpList_apps {ops : Array Oper} {rest : List Oper} {o : Oper} {a : Act} {Q : Exit → Act → World → Prop} (hgd : o.guard = none) (s x : Operand) (t : TypeId)
    (ho : o.op = .call { callee := .builtin .append, args := #[s, x], argTypes := #[t, t] }) (E : TypeId) (i : TypeInfo) (z : Value) (bytes sz : Nat) (ht : P.underlying t = some (.slice E)) (hi : P.info? E = some i) (hz : i.zero = some z) (hs : i.size = sz) (hb : i.bytes = bytes) (hz1 : z.cells.size = sz)
    (k : Option Ks) (hse : a.eval s = sval k) (hk : sok w E sz k) (xv : Value) (hxe : a.eval x = xv) (m : Nat) (news : List Value) (hx : Src w xv m news) (hm : news.length = m * sz) (h1 : ∀ v ∈ news, v.oneCell' = true)
    (hlim : (sn k + m) * bytes ≤ 140737488355328) (hlim2 : sn k + m ≤ maxLen)
    (hK : ∀ v' w', AppS w E sz k m news v' w' → wpList P ops Q rest (a.put o.dst v') w') : wpList P ops Q (o :: rest) a w := by
  refine wpList_plain hgd fun K hK' => ?_
  obtain ⟨v', w', hrun, hr⟩ := run_apps (P := P) (w := w) t o.type E i z bytes sz ht hi hz hs hb hz1 k hk xv m news hx hm h1 hlim hlim2
  unfold Oper.wp
  simp [execOp, ho, resolve, invoke, builtin, hse, hxe, hrun, Result.andThen]
  exact hK' _ _ (hK _ _ hr)
end
end Go.Proofs.Ytjdkdakepomhdaa
