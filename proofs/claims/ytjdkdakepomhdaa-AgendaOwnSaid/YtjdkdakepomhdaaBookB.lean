/- What a Book needs to take a list in. -/
import Derived.Test.YtjdkdakepomhdaaBook3
import Derived.Test.YtjdkdakepomhdaaHeldG
import Derived.Test.YtjdkdakepomhdaaProg
namespace Go.Proofs.Ytjdkdakepomhdaa
open Go.RowKit

section
variable {P : Program} {w : World}
/-- append(k, kx...), kx nil or a slice. -/
theorem run_appk (t ty E : TypeId) (i : TypeInfo) (z : Value) (bytes : Nat) (ht : P.underlying t = some (.slice E)) (hi : P.info? E = some i) (hz : i.zero = some z) (hs : i.size = 1) (hb : i.bytes = bytes) (hz1 : z.cells.size = 1)
    (k kx : Option Kp) (hk : kok w E k) (hx : kok w E kx) (h1 : ∀ v ∈ kl kx, v.oneCell' = true)
    (hlim : ((kl k).length + (kl kx).length) * bytes ≤ 140737488355328) (hlim2 : (kl k).length + (kl kx).length ≤ maxLen) :
    ∃ v' w', (Builtin.append_ #[t, t] ty #[kval k, kval kx]).run P w = .ok v' w' ∧ AppR w E k (kl kx) v' w' := by
  cases kx with
  | some kx => exact run_app (P := P) (w := w) t ty E i z bytes ht hi hz hs hb hz1 k hk _ _ _ _ rfl hx.cells h1 hlim hlim2
  | none =>
    refine ⟨kval k, w, ?_, Or.inl ⟨rfl, rfl, rfl⟩⟩
    rw [kval_eq k]
    cases hka : kad k with
    | none =>
      have : (kl k).length = 0 ∧ kcap k = 0 := by cases k with
        | none => exact ⟨rfl, rfl⟩
        | some k => simp [kad] at hka
      rw [this.1, this.2]
      simp [Builtin.append_, kval, run_underlying ht, sizeOf, typeInfo, hi, Builtin.lenOf, Builtin.firstCells]
    | some ad =>
      have : (kl k).length ≤ kcap k := by cases k with
        | none => exact Nat.zero_le _
        | some k => simp [kl, kcap]
      simp [Builtin.append_, kval, run_underlying ht, sizeOf, typeInfo, hi, Builtin.lenOf, Builtin.firstCells, loadCells, storeCells, Result.andThen, this]
theorem wp_appk {ops : Array Oper} {o : Oper} {a : Act} {K : Act → World → Prop} {Q : Exit → Act → World → Prop} {X : Prop} (hgd : o.guard = none) (s x : Operand) (t : TypeId)
    (ho : o.op = .call { callee := .builtin .append, args := #[s, x], argTypes := #[t, t] }) (E : TypeId) (i : TypeInfo) (z : Value) (bytes : Nat) (ht : P.underlying t = some (.slice E)) (hi : P.info? E = some i) (hz : i.zero = some z) (hs : i.size = 1) (hb : i.bytes = bytes) (hz1 : z.cells.size = 1)
    (k kx : Option Kp) (hse : a.eval s = kval k) (hk : kok w E k) (hxe : a.eval x = kval kx) (hx : kok w E kx) (h1 : ∀ v ∈ kl kx, v.oneCell' = true)
    (hlim : ((kl k).length + (kl kx).length) * bytes ≤ 140737488355328) (hlim2 : (kl k).length + (kl kx).length ≤ maxLen)
    (hK : ∀ v' w', AppR w E k (kl kx) v' w' → K (a.put o.dst v') w') : if Region.wanted o (yielded ops a.tmps) = true then o.wp P a w K Q else X := by
  have hw : Region.wanted o (yielded ops a.tmps) = true := by simp [Region.wanted, hgd]
  rw [if_pos hw]
  obtain ⟨v', w', hrun, hr⟩ := run_appk (P := P) (w := w) t o.type E i z bytes ht hi hz hs hb hz1 k kx hk hx h1 hlim hlim2
  unfold Oper.wp
  simp [execOp, ho, resolve, invoke, builtin, hse, hxe, hrun, Result.andThen]
  exact hK _ _ hr
end

theorem full_ok {w : World} {g : Nat} {B : Bk} (h : IsBook w g B) :
    Calls Try.prog 30 #[.pointer (some ⟨g, 0, none⟩)] w fun e w' => e = .returned (.bool (decide (200000 < B.n))) ∧ w = w' := by
  have c := h.cellAt (j := 12) rfl
  go_enter Try.func30, Try.ntmps30
  go_wp2
  go_ret
  exact ⟨rfl, rfl⟩

/-- Where the taking in stands, from world w on: the first row is turned, the second is not. -/
structure Half (w0 w : World) (g o : Nat) (E T G : TypeId) (cs : List Value) (p : Prt) (k r0' : Option Kp) : Prop where
  blk : w.heap[g]? = some (.cells (cs.set o (kval r0')).toArray G (0, 0))
  row : kok w T r0'
  rowl : kl r0' = kl p.r0 ++ [kval k]
  new : ∀ x ∈ kg r0', x ∈ kg p.r0 ∨ w0.heap.size ≤ x
  row1 : kok w T p.r1
  n1 : ∀ x ∈ kg r0', x ∉ kg p.r1
  fr : Fr (g :: (kg p.r0 ++ kg p.r1)) w0 w
section
variable {w0 w w' : World} {g o : Nat} {E T G : TypeId} {cs : List Value} {p : Prt} {k r0' : Option Kp}
theorem Half.quiet (h : Half w0 w g o E T G cs p k r0') (hf : Fr [] w w') : Half w0 w' g o E T G cs p k r0' :=
  ⟨hf.heap h.blk (by simp), h.row.fr hf (by simp), h.rowl, h.new, h.row1.fr hf (by simp), h.n1, h.fr.trans hf (by simp)⟩
theorem Half.at1 (h : Half w0 w g o E T G cs p k r0') {j : Nat} {v : Value} (hj : cs[j]? = some v) (h2 : o ≠ j) : w.cell? ⟨g, j, none⟩ = some v := by
  rw [blk_cell h.blk, List.getElem?_toArray, List.getElem?_set_ne h2]; exact hj
/-- The first append and its store. -/
theorem Half.begin {v' : Value} (hp : w0.heap[g]? = some (.cells cs.toArray G (0, 0))) (hr : kok w0 T p.r0) (hr1 : kok w0 T p.r1) (hrr : ∀ x ∈ kg p.r0, x ∉ kg p.r1) (hTG : T ≠ G) (hf : Fr [] w0 w) (ha : AppR w T p.r0 [kval k] v' w') :
    ∃ r0', v' = kval r0' ∧ w'.heap[g]? = some (.cells cs.toArray G (0, 0)) ∧ Half w0 (w'.setCell ⟨g, o, none⟩ v') g o E T G cs p k r0' := by
  obtain ⟨r0', rfl, h2, h3, h4, h5⟩ := ha.fresh (hr.fr hf (by simp))
  have hw := hf.heap hp (by simp)
  have hG : g ∉ kg p.r0 := far (hr.fr hf (by simp)).blk hTG.symm ⟨_, hw⟩
  have hb := h5.heap hw hG
  have hF : Fr [g] w' (w'.setCell ⟨g, o, none⟩ (kval r0')) := Fr.set (Fr.refl _ _) (by simp) _
  have hSg : ∀ x ∈ [g], Blk w' G x := fun x hx => by rw [List.mem_singleton.1 hx]; exact ⟨_, hb⟩
  have hsz := hf.size
  refine ⟨r0', rfl, hb, ?_, h2.fr hF (fun x hx => far hSg hTG (h2.blk x hx)), h3, fun x hx => (h4 x hx).imp id (fun h => by omega), ?_, ?_, ?_⟩
  · rw [blk_set hb, List.setIfInBounds_toArray]
  · have h6 := (hr1.fr hf (by simp)).fr h5 (fun x hx hx' => hrr x hx' hx)
    exact h6.fr hF (fun x hx => far hSg hTG (h6.blk x hx))
  · intro x hx hx'
    rcases h4 x hx with h6 | h6
    · exact hrr x h6 hx'
    · have := (hr1.blk x hx').lt
      omega
  · refine Fr.trans (T := [g]) (Fr.trans (T := kg p.r0) (hf.mono (by simp)) h5 (fun x hx => Or.inl ?_)) hF (fun x hx => Or.inl ?_)
    · exact List.mem_cons_of_mem _ (List.mem_append_left _ hx)
    · rw [List.mem_singleton.1 hx]; simp
/-- The copy is taken in too. -/
theorem Half.done {Good : Value → Prop} {v' : Value} {k' : Option Kp} {o1 : Nat} (h : Half w0 w g o E T G cs p k r0') (hp : IsPart w0 E T Good p) (hET : E ≠ T) (hEG : E ≠ G) (hTG : T ≠ G) (hg : Blk w0 G g)
    (hk : kok w0 E k) (hkn : ∀ x ∈ kg k, x ∉ p.blocks) (hsm : (kl k).length ≤ 1073741824) (hgd : ∀ v ∈ kl k, Good v) (hk' : kok w E k') (hkl : kl k' = kl k) (hkg : ∀ x ∈ kg k', w0.heap.size ≤ x)
    (ha : AppR w T p.r1 [kval k'] v' w') :
    ∃ r1', v' = kval r1' ∧ (w'.setCell ⟨g, o1, none⟩ v').heap[g]? = some (.cells ((cs.set o (kval r0')).set o1 (kval r1')).toArray G (0, 0)) ∧
      IsPart (w'.setCell ⟨g, o1, none⟩ v') E T Good ⟨p.ks ++ [k], p.ws ++ [k'], r0', r1'⟩ ∧ Fr (g :: (kg p.r0 ++ kg p.r1)) w0 (w'.setCell ⟨g, o1, none⟩ v') ∧
      (∀ x ∈ (⟨p.ks ++ [k], p.ws ++ [k'], r0', r1'⟩ : Prt).blocks, x ∈ p.blocks ∨ x ∈ kg k ∨ w0.heap.size ≤ x) := by
  have hr1 := h.row1
  have hn1 := h.n1
  obtain ⟨r1', rfl, h2, h3, h4, h5⟩ := ha.fresh hr1
  have hG : g ∉ kg p.r1 := far hr1.blk hTG.symm ⟨_, h.blk⟩
  have hb := h5.heap h.blk hG
  have hF : Fr [g] w' (w'.setCell ⟨g, o1, none⟩ (kval r1')) := Fr.set (Fr.refl _ _) (by simp) _
  have hSg : ∀ x ∈ [g], Blk w' G x := fun x hx => by rw [List.mem_singleton.1 hx]; exact ⟨_, hb⟩
  have hsz := h.fr.size
  have hall : Fr (g :: (kg p.r0 ++ kg p.r1)) w0 (w'.setCell ⟨g, o1, none⟩ (kval r1')) := Fr.trans (T := [g]) (Fr.trans (T := kg p.r1) h.fr h5 (fun x hx => Or.inl (List.mem_cons_of_mem _ (List.mem_append_right _ hx)))) hF (fun x hx => Or.inl (by rw [List.mem_singleton.1 hx]; simp))
  have hr0' : kok w' T r0' := h.row.fr h5 hn1
  have hkk : kok w' E k' := hk'.fr h5 (fun x hx => far hr1.blk hET (hk'.blk x hx))
  refine ⟨r1', rfl, ?_, hp.push hET hEG hg hk hkn hsm hgd hall (hr0'.fr hF (fun x hx => far hSg hTG (hr0'.blk x hx))) h.rowl (h2.fr hF (fun x hx => far hSg hTG (h2.blk x hx))) h3 ?_ (hkk.fr hF (fun x hx => far hSg hEG (hkk.blk x hx))) hkl hkg, hall, ?_⟩
  · rw [blk_set hb, List.setIfInBounds_toArray]
  · intro x hx hx'
    rcases h4 x hx' with h6 | h6
    · exact hn1 x hx h6
    · have := (h.row.blk x hx).lt
      omega
  · intro x hx
    rcases Prt.mem.1 hx with hx | hx | hx | hx
    · rcases h.new x hx with h6 | h6
      · exact Or.inl (Prt.mem.2 (Or.inl h6))
      · exact Or.inr (Or.inr h6)
    · rcases h4 x hx with h6 | h6
      · exact Or.inl (Prt.mem.2 (Or.inr (Or.inl h6)))
      · exact Or.inr (Or.inr (by omega))
    · simp only [List.flatMap_append, List.flatMap_cons, List.flatMap_nil, List.append_nil, List.mem_append] at hx
      rcases hx with hx | hx
      · exact Or.inl (Prt.mem.2 (Or.inr (Or.inr (Or.inl hx))))
      · exact Or.inr (Or.inl hx)
    · simp only [List.flatMap_append, List.flatMap_cons, List.flatMap_nil, List.append_nil, List.mem_append] at hx
      rcases hx with hx | hx
      · exact Or.inl (Prt.mem.2 (Or.inr (Or.inr (Or.inr hx))))
      · exact Or.inr (Or.inr (hkg x hx))
end

end Go.Proofs.Ytjdkdakepomhdaa
