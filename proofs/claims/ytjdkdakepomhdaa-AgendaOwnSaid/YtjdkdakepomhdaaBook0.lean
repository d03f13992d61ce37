/- Slices as blocks with what lies ahead, the elements, the spare room and what lies behind; append onto such a slice. No program in sight. -/
import Derived.Test.YtjdkdakepomhdaaLib
import Derived.ArgAppend
namespace Go.Proofs.Ytjdkdakepomhdaa
open Go.RowKit

/-- A slice: its block, what lies ahead of it there, its elements, its spare room, what lies behind. -/
structure Kp where
  g : Nat
  pre : List Value
  l : List Value
  spare : List Value
  post : List Value

def Kp.val (k : Kp) : Value := .slice (some ⟨k.g, k.pre.length, none⟩) k.l.length (k.l.length + k.spare.length)
def Kp.all (k : Kp) : List Value := k.pre ++ (k.l ++ (k.spare ++ k.post))
structure Kp.Lies (w : World) (E : TypeId) (k : Kp) : Prop where
  heap : w.heap[k.g]? = some (.cells k.all.toArray E (0, 0))
  capLe : k.l.length + k.spare.length ≤ maxLen

theorem Kp.Lies.lt {w : World} {E : TypeId} {k : Kp} (h : k.Lies w E) : k.g < w.heap.size := lt_of_heap h.heap
theorem Kp.Lies.fr {S : List Nat} {w w' : World} {E : TypeId} {k : Kp} (h : k.Lies w E) (hf : Fr S w w') (hs : k.g ∉ S) : k.Lies w' E := ⟨hf.heap h.heap hs, h.capLe⟩
theorem Kp.Lies.cells {w : World} {E : TypeId} {k : Kp} (h : k.Lies w E) : Cells w ⟨k.g, k.pre.length, none⟩ k.l :=
  Cells.of_blk h.heap _ _ (fun j v hv => by
    have hj := (List.getElem?_eq_some_iff.1 hv).1
    rw [List.getElem?_toArray]
    unfold Kp.all
    rw [List.getElem?_append_right (by omega), Nat.add_sub_cancel_left, List.getElem?_append_left hj]; exact hv)
theorem Kp.Lies.cellAt {w : World} {E : TypeId} {k : Kp} (h : k.Lies w E) (i : Nat) (v : Value) (hv : k.l[i]? = some v) : w.cell? ⟨k.g, k.pre.length + i, none⟩ = some v := h.cells.lit i v hv
theorem Kp.Lies.free {w : World} {E : TypeId} {k : Kp} (h : k.Lies w E) (i : Nat) : w.frozen? ⟨k.g, i, none⟩ = false := blk_free h.heap i

/-- An element written. -/
def Kp.set (k : Kp) (i : Nat) (v : Value) : Kp := { k with l := k.l.set i v }
theorem Kp.set_val (k : Kp) (i : Nat) (v : Value) : (k.set i v).val = k.val := by simp [Kp.set, Kp.val]
theorem Kp.Lies.set {w : World} {E : TypeId} {k : Kp} (h : k.Lies w E) (i : Nat) (hi : i < k.l.length) (v : Value) : (k.set i v).Lies (w.setCell ⟨k.g, k.pre.length + i, none⟩ v) E := by
  refine ⟨?_, by simpa [Kp.set] using h.capLe⟩
  rw [show (k.set i v).g = k.g from rfl, blk_set h.heap, List.setIfInBounds_toArray]
  congr 3
  unfold Kp.all Kp.set
  rw [List.set_append_right _ _ (by omega), Nat.add_sub_cancel_left, List.set_append_left _ _ hi]

/-- Elements appended where there is room. -/
def Kp.push (k : Kp) (news : List Value) : Kp := { k with l := k.l ++ news, spare := k.spare.drop news.length }
theorem Kp.Lies.push {w : World} {E : TypeId} {k : Kp} (h : k.Lies w E) (news : List Value) (hn : news.length ≤ k.spare.length) : (k.push news).Lies (w.setCells k.g (k.pre.length + k.l.length) news) E := by
  have hc := h.capLe
  refine ⟨?_, by simp [Kp.push]; omega⟩
  rw [show (k.push news).g = k.g from rfl, setCells_blk news _ w _ h.heap (by simp [Kp.all]; omega)]
  congr 3
  unfold Kp.all Kp.push splice
  rw [← List.append_assoc k.pre k.l, ← List.length_append, List.take_left, ← List.drop_drop, List.drop_left, List.drop_append_of_le_length hn]
  simp
theorem Kp.push_val (k : Kp) (news : List Value) (hn : news.length ≤ k.spare.length) : (k.push news).val = .slice (some ⟨k.g, k.pre.length, none⟩) (k.l.length + news.length) (k.l.length + k.spare.length) := by
  unfold Kp.push Kp.val
  simp only [List.length_append, List.length_drop]
  congr 1; omega

/-- nil, or a slice. -/
def kval : Option Kp → Value
  | none => .slice none 0 0
  | some k => k.val
def kl : Option Kp → List Value
  | none => []
  | some k => k.l
def kok (w : World) (E : TypeId) : Option Kp → Prop
  | none => True
  | some k => k.Lies w E
def kg : Option Kp → List Nat
  | none => []
  | some k => [k.g]
theorem kok.fr {S : List Nat} {w w' : World} {E : TypeId} {k : Option Kp} (h : kok w E k) (hf : Fr S w w') (hs : ∀ x ∈ kg k, x ∉ S) : kok w' E k := by
  cases k with
  | none => trivial
  | some k => exact Kp.Lies.fr h hf (hs _ (by simp [kg]))
theorem kok.lt {w : World} {E : TypeId} {k : Option Kp} (h : kok w E k) : ∀ x ∈ kg k, x < w.heap.size := by
  cases k with
  | none => simp [kg]
  | some k => intro x hx; obtain rfl : x = k.g := by simpa [kg] using hx
              exact Kp.Lies.lt h

/-- What an append leaves. -/
def AppR (w : World) (E : TypeId) (k : Option Kp) (news : List Value) (v' : Value) (w' : World) : Prop :=
  (news = [] ∧ v' = kval k ∧ w' = w) ∨
  (∃ k0, k = some k0 ∧ news.length ≤ k0.spare.length ∧ v' = (k0.push news).val ∧ (k0.push news).Lies w' E ∧ Fr [k0.g] w w' ∧ w'.heap.size = w.heap.size) ∨
  (∃ k' : Kp, v' = k'.val ∧ k'.g = w.heap.size ∧ k'.pre = [] ∧ k'.post = [] ∧ k'.l = kl k ++ news ∧ k'.Lies w' E ∧ Fr [] w w' ∧ (∀ k0, k = some k0 → k0.spare.length < news.length))

theorem AppR.fr {w w' : World} {E : TypeId} {k : Option Kp} {news : List Value} {v' : Value} (h : AppR w E k news v' w') : Fr (kg k) w w' := by
  rcases h with ⟨_, _, rfl⟩ | ⟨k0, rfl, _, _, _, hf, _⟩ | ⟨k', _, _, _, _, _, _, hf, _⟩
  · exact Fr.refl _ _
  · exact hf
  · exact hf.mono (by simp)
/-- The slice behind an append. -/
theorem AppR.next {w w' : World} {E : TypeId} {k : Option Kp} {news : List Value} {v' : Value} (h : AppR w E k news v' w') (hk : kok w E k) :
    ∃ k', v' = kval k' ∧ kok w' E k' ∧ kl k' = kl k ++ news ∧ (∀ x ∈ kg k', x ∈ kg k ∨ w.heap.size ≤ x) := by
  rcases h with ⟨rfl, h1, rfl⟩ | ⟨k0, rfl, h1, h2, h3, h4, _⟩ | ⟨k', h1, h2, _, _, h3, h4, h5, _⟩
  · exact ⟨k, h1, hk, by simp, fun x hx => Or.inl hx⟩
  · exact ⟨some (k0.push news), h2, h3, rfl, fun x hx => Or.inl hx⟩
  · refine ⟨some k', h1, h4, h3, fun x hx => Or.inr ?_⟩
    obtain rfl : x = k'.g := by simpa [kg] using hx
    omega

section
variable {P : Program} {w : World}
theorem run_app (t ty E : TypeId) (i : TypeInfo) (z : Value) (bytes : Nat) (ht : P.underlying t = some (.slice E)) (hi : P.info? E = some i) (hz : i.zero = some z) (hs : i.size = 1) (hb : i.bytes = bytes) (hz1 : z.cells.size = 1)
    (k : Option Kp) (hk : kok w E k) (ad : Addr) (m c : Nat) (news : List Value) (hm : news.length = m) (hc : Cells w ad news) (h1 : ∀ v ∈ news, v.oneCell' = true)
    (hlim : ((kl k).length + m) * bytes ≤ 140737488355328) (hlim2 : (kl k).length + m ≤ maxLen) :
    ∃ v' w', (Builtin.append_ #[t, t] ty #[kval k, .slice (some ad) m c]).run P w = .ok v' w' ∧ AppR w E k news v' w' := by
  subst hm
  have hcap : ∀ need old, need ≤ maxLen → grownCap w need old E ≤ maxLen := fun need old h => grownCap_le_maxLen w need old E h
  cases k with
  | none =>
    by_cases hn : news = []
    · subst hn
      refine ⟨.slice none 0 0, w, ?_, Or.inl ⟨rfl, rfl, rfl⟩⟩
      simp [Builtin.append_, kval, run_underlying ht, sizeOf, typeInfo, hi, Builtin.lenOf, Builtin.firstCells, loadCells, loadCellsFrom]
    · have hpos : 0 < news.length := List.length_pos_iff.2 hn
      simp only [kl, List.length_nil, Nat.zero_add] at hlim hlim2
      have hr := run_append_nil (P := P) (w := w) t ty E i z ht hi hz ad news.length c news (by simp [hs]) hc hpos (by unfold maxLen at hlim2; omega) (by rw [hb]; omega)
      have hge := grownCap_ge w news.length 0 E
      have hle := hcap news.length 0 hlim2
      have hzl : (Builtin.zeroCells z.cells (grownCap w news.length 0 E - news.length)).toList.length = grownCap w news.length 0 E - news.length := by simp [size_zeroCells, hz1]
      refine ⟨_, _, hr, Or.inr (Or.inr ⟨⟨w.heap.size, [], news, (Builtin.zeroCells z.cells (grownCap w news.length 0 E - news.length)).toList, []⟩, ?_, rfl, rfl, rfl, by simp [kl], ⟨?_, ?_⟩, (Fr.refl _ _).drew.alloc _, fun _ h => by cases h⟩)⟩
      · unfold Kp.val
        simp only [List.length_nil, hzl]
        congr 1; omega
      · show (w.drew.alloc _).heap[w.heap.size]? = _
        rw [show w.heap.size = w.drew.heap.size from rfl, heap_new]
        simp [Kp.all]
      · simp only [hzl]; omega
  | some k =>
    have hkc := Kp.Lies.cells hk
    have hco := hk.capLe
    by_cases hroom : k.l.length + news.length ≤ k.l.length + k.spare.length
    · have hr := run_append_room_cells (P := P) w t ty E i ht hi k.g k.pre.length k.l.length (k.l.length + k.spare.length) ad news.length c news (by simp [hs]) hc h1 hroom (fun j hj => by
        rw [hs, Nat.mul_one, blk_cell hk.heap, List.getElem?_toArray, List.getElem?_eq_getElem (by simp [Kp.all]; omega)]; rfl) (fun j hj => by rw [blk_free hk.heap])
      rw [hs, Nat.mul_one] at hr
      have hF : Fr [k.g] w (w.setCells k.g (k.pre.length + k.l.length) news) := Fr.setCells (by simp) _ _ _ (Fr.refl _ _)
      refine ⟨_, _, hr, Or.inr (Or.inl ⟨k, rfl, by omega, (Kp.push_val k news (by omega)).symm, hk.push news (by omega), hF, ?_⟩)⟩
      have : ∀ (vs : List Value) (o : Nat) (w : World), (w.setCells k.g o vs).heap.size = w.heap.size := by
        intro vs; induction vs with
        | nil => intro o w; rfl
        | cons v r ih => intro o w; rw [World.setCells, ih]; simp [World.setCell]
      exact this _ _ _
    · have hlim' : (k.l.length + news.length) * bytes ≤ 140737488355328 := hlim
      have hlim2' : k.l.length + news.length ≤ maxLen := hlim2
      have hr := run_append_grow (P := P) (w := w) t ty E i z ht hi hz ⟨k.g, k.pre.length, none⟩ k.l.length (k.l.length + k.spare.length) k.l (by simp [hs]) hkc ad news.length c news (by simp [hs]) hc (by omega) (by unfold maxLen at hlim2'; omega)
        (by rw [hb]; exact growslice_fits (by omega) hlim')
      have hge := grownCap_ge w (k.l.length + news.length) (k.l.length + k.spare.length) E
      have hle := hcap (k.l.length + news.length) (k.l.length + k.spare.length) hlim2'
      generalize grownCap w (k.l.length + news.length) (k.l.length + k.spare.length) E = G at *
      have hzl : (Builtin.zeroCells z.cells (G - (k.l.length + news.length))).toList.length = G - (k.l.length + news.length) := by simp [size_zeroCells, hz1]
      refine ⟨_, _, hr, Or.inr (Or.inr ⟨⟨w.heap.size, [], k.l ++ news, (Builtin.zeroCells z.cells (G - (k.l.length + news.length))).toList, []⟩, ?_, rfl, rfl, rfl, rfl, ⟨?_, ?_⟩, (Fr.refl _ _).drew.alloc _, fun k0 h => by obtain rfl := Option.some.inj h; omega⟩)⟩
      · unfold Kp.val
        simp only [List.length_nil, hzl, List.length_append]
        congr 1; omega
      · show (w.drew.alloc _).heap[w.heap.size]? = _
        rw [show w.heap.size = w.drew.heap.size from rfl, heap_new]
        simp [Kp.all]
      · simp only [hzl, List.length_append]; omega

theorem wp_app {ops : Array Oper} {o : Oper} {a : Act} {K : Act → World → Prop} {Q : Exit → Act → World → Prop} {X : Prop} (hgd : o.guard = none) (s x : Operand) (t : TypeId)
    (ho : o.op = .call { callee := .builtin .append, args := #[s, x], argTypes := #[t, t] }) (E : TypeId) (i : TypeInfo) (z : Value) (bytes : Nat) (ht : P.underlying t = some (.slice E)) (hi : P.info? E = some i) (hz : i.zero = some z) (hs : i.size = 1) (hb : i.bytes = bytes) (hz1 : z.cells.size = 1)
    (k : Option Kp) (hse : a.eval s = kval k) (hk : kok w E k) (ad : Addr) (m c : Nat) (hxe : a.eval x = .slice (some ad) m c) (news : List Value) (hm : news.length = m) (hc : Cells w ad news) (h1 : ∀ v ∈ news, v.oneCell' = true)
    (hlim : ((kl k).length + m) * bytes ≤ 140737488355328) (hlim2 : (kl k).length + m ≤ maxLen)
    (hK : ∀ v' w', AppR w E k news v' w' → K (a.put o.dst v') w') : if Region.wanted o (yielded ops a.tmps) = true then o.wp P a w K Q else X := by
  have hw : Region.wanted o (yielded ops a.tmps) = true := by simp [Region.wanted, hgd]
  rw [if_pos hw]
  obtain ⟨v', w', hrun, hr⟩ := run_app (P := P) (w := w) t o.type E i z bytes ht hi hz hs hb hz1 k hk ad m c news hm hc h1 hlim hlim2
  unfold Oper.wp
  simp [execOp, ho, resolve, invoke, builtin, hse, hxe, hrun, Result.andThen]
  exact hK _ _ hr
theorem wpList_app {ops : Array Oper} {rest : List Oper} {o : Oper} {a : Act} {Q : Exit → Act → World → Prop} (hgd : o.guard = none) (s x : Operand) (t : TypeId)
    (ho : o.op = .call { callee := .builtin .append, args := #[s, x], argTypes := #[t, t] }) (E : TypeId) (i : TypeInfo) (z : Value) (bytes : Nat) (ht : P.underlying t = some (.slice E)) (hi : P.info? E = some i) (hz : i.zero = some z) (hs : i.size = 1) (hb : i.bytes = bytes) (hz1 : z.cells.size = 1)
    (k : Option Kp) (hse : a.eval s = kval k) (hk : kok w E k) (ad : Addr) (m c : Nat) (hxe : a.eval x = .slice (some ad) m c) (news : List Value) (hm : news.length = m) (hc : Cells w ad news) (h1 : ∀ v ∈ news, v.oneCell' = true)
    (hlim : ((kl k).length + m) * bytes ≤ 140737488355328) (hlim2 : (kl k).length + m ≤ maxLen)
    (hK : ∀ v' w', AppR w E k news v' w' → wpList P ops Q rest (a.put o.dst v') w') : wpList P ops Q (o :: rest) a w := by
  refine wpList_plain hgd fun K hK' => ?_
  obtain ⟨v', w', hrun, hr⟩ := run_app (P := P) (w := w) t o.type E i z bytes ht hi hz hs hb hz1 k hk ad m c news hm hc h1 hlim hlim2
  unfold Oper.wp
  simp [execOp, ho, resolve, invoke, builtin, hse, hxe, hrun, Result.andThen]
  exact hK' _ _ (hK _ _ hr)
end
end Go.Proofs.Ytjdkdakepomhdaa
