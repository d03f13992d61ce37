/- A Book takes a list of bytes in. -/
import Derived.Test.YtmdmdjolfahjbaaBook3
import Derived.Test.YtmdmdjolfahjbaaCloseU
namespace Go.Proofs.Ytmdmdjolfahjbaa
open Go.RowKit

section
variable {P : Program} {w : World}
/-- append(k, kx...), kx nil or a slice. -/
theorem run_appk (t ty E : TypeId) (i : TypeInfo) (z : Value) (bytes : Nat) (ht : P.underlying t = some (.slice E)) (hi : P.info? E = some i) (hz : i.zero = some z) (hs : i.size = 1) (hb : i.bytes = bytes) (hz1 : z.cells.size = 1)
    (k kx : Option Kp) (hk : kok w E k) (hx : kok w E kx) (h1 : ∀ v ∈ kl kx, v.oneCell' = true)
    (hlim : ((kl k).length + (kl kx).length) * bytes ≤ 140737488355328) (hlim2 : (kl k).length + (kl kx).length ≤ maxLen) :
    ∃ v' w', (Builtin.append_ #[t, t] ty #[kval k, kval kx]).run P w = .ok v' w' ∧ AppR w E k (kl kx) v' w' := by
  cases kx with
  | some kx => exact run_app (P := P) (w := w) t ty E i z bytes ht hi hz hs hb hz1 k hk _ _ _ _ rfl hx.cells h1 hlim hlim2
  | none =>
    refine ⟨kval k, w, ?_, Or.inl ⟨rfl, rfl, rfl⟩⟩
    rw [kval_eq k]
    cases hka : kad k with
    | none =>
      have : (kl k).length = 0 ∧ kcap k = 0 := by cases k with
        | none => exact ⟨rfl, rfl⟩
        | some k => simp [kad] at hka
      rw [this.1, this.2]
      simp [Builtin.append_, kval, run_underlying ht, sizeOf, typeInfo, hi, Builtin.lenOf, Builtin.firstCells]
    | some ad =>
      have : (kl k).length ≤ kcap k := by cases k with
        | none => exact Nat.zero_le _
        | some k => simp [kl, kcap]
      simp [Builtin.append_, kval, run_underlying ht, sizeOf, typeInfo, hi, Builtin.lenOf, Builtin.firstCells, loadCells, storeCells, Result.andThen, this]
theorem wp_appk {ops : Array Oper} {o : Oper} {a : Act} {K : Act → World → Prop} {Q : Exit → Act → World → Prop} {X : Prop} (hgd : o.guard = none) (s x : Operand) (t : TypeId)
    (ho : o.op = .call { callee := .builtin .append, args := #[s, x], argTypes := #[t, t] }) (E : TypeId) (i : TypeInfo) (z : Value) (bytes : Nat) (ht : P.underlying t = some (.slice E)) (hi : P.info? E = some i) (hz : i.zero = some z) (hs : i.size = 1) (hb : i.bytes = bytes) (hz1 : z.cells.size = 1)
    (k kx : Option Kp) (hse : a.eval s = kval k) (hk : kok w E k) (hxe : a.eval x = kval kx) (hx : kok w E kx) (h1 : ∀ v ∈ kl kx, v.oneCell' = true)
    (hlim : ((kl k).length + (kl kx).length) * bytes ≤ 140737488355328) (hlim2 : (kl k).length + (kl kx).length ≤ maxLen)
    (hK : ∀ v' w', AppR w E k (kl kx) v' w' → K (a.put o.dst v') w') : if Region.wanted o (yielded ops a.tmps) = true then o.wp P a w K Q else X := by
  have hw : Region.wanted o (yielded ops a.tmps) = true := by simp [Region.wanted, hgd]
  rw [if_pos hw]
  obtain ⟨v', w', hrun, hr⟩ := run_appk (P := P) (w := w) t o.type E i z bytes ht hi hz hs hb hz1 k kx hk hx h1 hlim hlim2
  unfold Oper.wp
  simp [execOp, ho, resolve, invoke, builtin, hse, hxe, hrun, Result.andThen]
  exact hK _ _ hr
end

theorem full_ok {w : World} {g : Nat} {B : Bk} (h : IsBook w g B) :
    Calls Try.prog 26 #[.pointer (some ⟨g, 0, none⟩)] w fun e w' => e = .returned (.bool (decide (200000 < B.n))) ∧ w = w' := by
  have c := h.cellAt (j := 12) rfl
  go_enter Try.func26, Try.ntmps26
  go_wp2
  go_ret
  exact ⟨rfl, rfl⟩

/-- Where the taking in stands, from world w on: the first row is turned, the second is not. -/
structure Half (w0 w : World) (g o : Nat) (E T G : TypeId) (cs : List Value) (p : Prt) (k r0' : Option Kp) : Prop where
  blk : w.heap[g]? = some (.cells (cs.set o (kval r0')).toArray G (0, 0))
  row : kok w T r0'
  rowl : kl r0' = kl p.r0 ++ [kval k]
  new : ∀ x ∈ kg r0', x ∈ kg p.r0 ∨ w0.heap.size ≤ x
  row1 : kok w T p.r1
  n1 : ∀ x ∈ kg r0', x ∉ kg p.r1
  fr : Fr (g :: (kg p.r0 ++ kg p.r1)) w0 w
section
variable {w0 w w' : World} {g o : Nat} {E T G : TypeId} {cs : List Value} {p : Prt} {k r0' : Option Kp}
theorem Half.quiet (h : Half w0 w g o E T G cs p k r0') (hf : Fr [] w w') : Half w0 w' g o E T G cs p k r0' :=
  ⟨hf.heap h.blk (by simp), h.row.fr hf (by simp), h.rowl, h.new, h.row1.fr hf (by simp), h.n1, h.fr.trans hf (by simp)⟩
theorem Half.at1 (h : Half w0 w g o E T G cs p k r0') {j : Nat} {v : Value} (hj : cs[j]? = some v) (h2 : o ≠ j) : w.cell? ⟨g, j, none⟩ = some v := by
  rw [blk_cell h.blk, List.getElem?_toArray, List.getElem?_set_ne h2]; exact hj
/-- The first append and its store. -/
theorem Half.begin {v' : Value} (hp : w0.heap[g]? = some (.cells cs.toArray G (0, 0))) (hr : kok w0 T p.r0) (hr1 : kok w0 T p.r1) (hrr : ∀ x ∈ kg p.r0, x ∉ kg p.r1) (hTG : T ≠ G) (hf : Fr [] w0 w) (ha : AppR w T p.r0 [kval k] v' w') :
    ∃ r0', v' = kval r0' ∧ w'.heap[g]? = some (.cells cs.toArray G (0, 0)) ∧ Half w0 (w'.setCell ⟨g, o, none⟩ v') g o E T G cs p k r0' := by
  obtain ⟨r0', rfl, h2, h3, h4, h5⟩ := ha.fresh (hr.fr hf (by simp))
  have hw := hf.heap hp (by simp)
  have hG : g ∉ kg p.r0 := far (hr.fr hf (by simp)).blk hTG.symm ⟨_, hw⟩
  have hb := h5.heap hw hG
  have hF : Fr [g] w' (w'.setCell ⟨g, o, none⟩ (kval r0')) := Fr.set (Fr.refl _ _) (by simp) _
  have hSg : ∀ x ∈ [g], Blk w' G x := fun x hx => by rw [List.mem_singleton.1 hx]; exact ⟨_, hb⟩
  have hsz := hf.size
  refine ⟨r0', rfl, hb, ?_, h2.fr hF (fun x hx => far hSg hTG (h2.blk x hx)), h3, fun x hx => (h4 x hx).imp id (fun h => by omega), ?_, ?_, ?_⟩
  · rw [blk_set hb, List.setIfInBounds_toArray]
  · have h6 := (hr1.fr hf (by simp)).fr h5 (fun x hx hx' => hrr x hx' hx)
    exact h6.fr hF (fun x hx => far hSg hTG (h6.blk x hx))
  · intro x hx hx'
    rcases h4 x hx with h6 | h6
    · exact hrr x h6 hx'
    · have := (hr1.blk x hx').lt
      omega
  · refine Fr.trans (T := [g]) (Fr.trans (T := kg p.r0) (hf.mono (by simp)) h5 (fun x hx => Or.inl ?_)) hF (fun x hx => Or.inl ?_)
    · exact List.mem_cons_of_mem _ (List.mem_append_left _ hx)
    · rw [List.mem_singleton.1 hx]; simp
/-- The copy is taken in too. -/
theorem Half.done {Good : Value → Prop} {v' : Value} {k' : Option Kp} {o1 : Nat} (h : Half w0 w g o E T G cs p k r0') (hp : IsPart w0 E T Good p) (hET : E ≠ T) (hEG : E ≠ G) (hTG : T ≠ G) (hg : Blk w0 G g)
    (hk : kok w0 E k) (hkn : ∀ x ∈ kg k, x ∉ p.blocks) (hsm : (kl k).length ≤ 1073741824) (hgd : ∀ v ∈ kl k, Good v) (hk' : kok w E k') (hkl : kl k' = kl k) (hkg : ∀ x ∈ kg k', w0.heap.size ≤ x)
    (ha : AppR w T p.r1 [kval k'] v' w') :
    ∃ r1', v' = kval r1' ∧ (w'.setCell ⟨g, o1, none⟩ v').heap[g]? = some (.cells ((cs.set o (kval r0')).set o1 (kval r1')).toArray G (0, 0)) ∧
      IsPart (w'.setCell ⟨g, o1, none⟩ v') E T Good ⟨p.ks ++ [k], p.ws ++ [k'], r0', r1'⟩ ∧ Fr (g :: (kg p.r0 ++ kg p.r1)) w0 (w'.setCell ⟨g, o1, none⟩ v') ∧
      (∀ x ∈ (⟨p.ks ++ [k], p.ws ++ [k'], r0', r1'⟩ : Prt).blocks, x ∈ p.blocks ∨ x ∈ kg k ∨ w0.heap.size ≤ x) := by
  have hr1 := h.row1
  have hn1 := h.n1
  obtain ⟨r1', rfl, h2, h3, h4, h5⟩ := ha.fresh hr1
  have hG : g ∉ kg p.r1 := far hr1.blk hTG.symm ⟨_, h.blk⟩
  have hb := h5.heap h.blk hG
  have hF : Fr [g] w' (w'.setCell ⟨g, o1, none⟩ (kval r1')) := Fr.set (Fr.refl _ _) (by simp) _
  have hSg : ∀ x ∈ [g], Blk w' G x := fun x hx => by rw [List.mem_singleton.1 hx]; exact ⟨_, hb⟩
  have hsz := h.fr.size
  have hall : Fr (g :: (kg p.r0 ++ kg p.r1)) w0 (w'.setCell ⟨g, o1, none⟩ (kval r1')) := Fr.trans (T := [g]) (Fr.trans (T := kg p.r1) h.fr h5 (fun x hx => Or.inl (List.mem_cons_of_mem _ (List.mem_append_right _ hx)))) hF (fun x hx => Or.inl (by rw [List.mem_singleton.1 hx]; simp))
  have hr0' : kok w' T r0' := h.row.fr h5 hn1
  have hkk : kok w' E k' := hk'.fr h5 (fun x hx => far hr1.blk hET (hk'.blk x hx))
  refine ⟨r1', rfl, ?_, hp.push hET hEG hg hk hkn hsm hgd hall (hr0'.fr hF (fun x hx => far hSg hTG (hr0'.blk x hx))) h.rowl (h2.fr hF (fun x hx => far hSg hTG (h2.blk x hx))) h3 ?_ (hkk.fr hF (fun x hx => far hSg hEG (hkk.blk x hx))) hkl hkg, hall, ?_⟩
  · rw [blk_set hb, List.setIfInBounds_toArray]
  · intro x hx hx'
    rcases h4 x hx' with h6 | h6
    · exact hn1 x hx h6
    · have := (h.row.blk x hx).lt
      omega
  · intro x hx
    rcases Prt.mem.1 hx with hx | hx | hx | hx
    · rcases h.new x hx with h6 | h6
      · exact Or.inl (Prt.mem.2 (Or.inl h6))
      · exact Or.inr (Or.inr h6)
    · rcases h4 x hx with h6 | h6
      · exact Or.inl (Prt.mem.2 (Or.inr (Or.inl h6)))
      · exact Or.inr (Or.inr (by omega))
    · simp only [List.flatMap_append, List.flatMap_cons, List.flatMap_nil, List.append_nil, List.mem_append] at hx
      rcases hx with hx | hx
      · exact Or.inl (Prt.mem.2 (Or.inr (Or.inr (Or.inl hx))))
      · exact Or.inr (Or.inl hx)
    · simp only [List.flatMap_append, List.flatMap_cons, List.flatMap_nil, List.append_nil, List.mem_append] at hx
      rcases hx with hx | hx
      · exact Or.inl (Prt.mem.2 (Or.inr (Or.inr (Or.inr hx))))
      · exact Or.inr (Or.inr (hkg x hx))
end

set_option maxRecDepth 100000 in
set_option maxHeartbeats 2000000 in
/-- A list of bytes is taken in. -/
theorem bytesU_ok {w : World} {g : Nat} {B : Bk} {k : Option Kp} (h : IsBook w g B) (hk : kok w 5 k) (hkn : ∀ x ∈ kg k, x ∉ B.blocks g) (hsm : (kl k).length ≤ 1073741824) (hgd : ∀ v ∈ kl k, GoodU v) :
    Calls Try.prog 16 #[.pointer (some ⟨g, 0, none⟩), kval k] w fun e w' => e = .returned (.tuple #[]) ∧
      ∃ B', IsBook w' g B' ∧ Fr (B.blocks g) w w' ∧ (∀ x ∈ B'.blocks g, x ∈ B.blocks g ∨ x ∈ kg k ∨ w.heap.size ≤ x) ∧ B'.i = B.i ∧ B'.t = B.t := by
  obtain ⟨kp, kn, kc, hkv, hkn2⟩ : ∃ p n c, kval k = .slice p n c ∧ n = (kl k).length := ⟨_, _, _, kval_eq k, rfl⟩
  by_cases hfull : 200000 < B.n
  · have gd : decide (200000 < B.n) = true := by simpa using hfull
    rw [hkv]
    go_enter Try.func16, Try.ntmps16
    go_wp2_with fail
    refine (full_ok h).mono ?_
    rintro e w' ⟨rfl, rfl⟩
    go_wp2_with fail
    refine bodyPost_ret (results_none rfl _ _ _) rfl ?_
    exact ⟨rfl, B, h, Fr.refl _ _, fun x hx => Or.inl hx, rfl, rfl⟩
  · have gd : decide (200000 < B.n) = false := by simpa using hfull
    have hET : 5 ≠ 31 := by decide
    have hEG : 5 ≠ 46 := by decide
    have hTG : 31 ≠ 46 := by decide
    obtain ⟨ii, hii, hz0, hz1, hz2⟩ := info_parts Try.infoBU
    obtain ⟨jj, hjj, hy0, hy1, hy2⟩ := info_parts Try.infoBSlU
    have c12 := h.cellAt (j := 12) rfl
    have f12 := h.free 12
    have hn0 := h.n0
    have e1 : wrap64 (B.n + kn) = B.n + kn := IntWalk.wrap64_in _ (by omega)
    have e2 : wrap64 (B.n + kn + 1) = B.n + kn + 1 := IntWalk.wrap64_in _ (by omega)
    have HF0 := Lib.hid (Fr.set (S := [g]) (Fr.refl _ w) (p := ⟨g, 12, none⟩) (Or.inl (by simp)) (.int .i64 (B.n + kn + 1)))
    have hblk0 := blk_set h.blk 12 (.int .i64 (B.n + kn + 1))
    rw [List.setIfInBounds_toArray] at hblk0
    have HSM := Lib.hid hsm
    have HKN0 := Lib.hid hkn
    have HKL := Lib.hid hkn2
    have HKX := Lib.hid hkv
    have HGD := Lib.hid hgd
    have HBK := Lib.hid h
    have HKK0 := Lib.hid hk
    have HBLK0 := Lib.hid hblk0
    have HET := Lib.hid hET
    have HEG := Lib.hid hEG
    have HTG := Lib.hid hTG
    have c0 := h.cellAt (j := 0) rfl
    have HN0 := Lib.hid hn0
    have HNF := Lib.hid hfull
    rw [hkv]
    clear hsm hkn hkn2 hkv hgd h hk hblk0 hET hEG hTG hn0 hfull
    go_enter Try.func16, Try.ntmps16
    go_wp2_with fail
    refine (full_ok HBK.out).mono ?_
    rintro e w' ⟨rfl, rfl⟩
    go_wp2_with (at_builtin; refine wpList_app rfl _ _ 42 rfl 31 jj (.slice none 0 0) 24 Try.underlying42 hjj hy0 hy1 hy2 rfl B.u.r0 rfl ?_ _ 1 1 rfl [.slice kp kn kc] rfl ?_ ?_ ?_ ?_ ?_)
    · exact (HBK.out.u.row.fr HF0.out (fun x hx => far (T := 46) (fun y hy => by rw [List.mem_singleton.1 hy]; exact ⟨_, HBK.out.blk⟩) HTG.out (HBK.out.u.row.blk x hx))).fr ((Fr.refl [] _).alloc _) (fun _ _ => List.not_mem_nil)
    · simpa using cells_new1 (w.setCell ⟨g, 12, none⟩ (.int .i64 (B.n + kn + 1))) 31 (.slice kp kn kc)
    · intro v hv; rw [List.mem_singleton.1 hv]; rfl
    · have := HBK.out.u.rowl; have h1 := congrArg List.length this; rw [List.length_map] at h1; have := HBK.out.nu; have := HBK.out.n1; omega
    · have := HBK.out.u.rowl; have h1 := congrArg List.length this; rw [List.length_map] at h1; have := HBK.out.nu; have := HBK.out.n1; unfold maxLen; omega
    · intro v1 w1 hA1
      have hg46 : ∀ x ∈ [g], Blk w 46 x := fun x hx => by rw [List.mem_singleton.1 hx]; exact ⟨_, HBK.out.blk⟩
      have hwsz : (w.setCell ⟨g, 12, none⟩ (.int .i64 (B.n + kn + 1))).heap.size = w.heap.size := by simp [World.setCell]
      generalize w.setCell ⟨g, 12, none⟩ (.int .i64 (B.n + kn + 1)) = wa at *
      have hpart : IsPart wa 5 31 GoodU B.u := HBK.out.u.fr HF0.out (fun x hx => by
        rcases HBK.out.u.blk x hx with h | h
        · exact far hg46 HEG.out h
        · exact far hg46 HTG.out h)
      have HPART := Lib.hid hpart
      have HBA : Hid (Blk wa 46 g) := Lib.hid ⟨_, HBLK0.out⟩
      have HK : Hid (kok wa 5 k) := Lib.hid (HKK0.out.fr HF0.out (fun x hx => far hg46 HEG.out (HKK0.out.blk x hx)))
      have HKN : Hid (∀ x ∈ kg k, x ∉ B.u.blocks) := Lib.hid (fun x hx hm => HKN0.out x hx (Bk.mem.2 (Or.inr (Or.inl hm))))
      rw [← HKX.out] at hA1
      obtain ⟨r0', rfl, hb1, hhalf⟩ := Half.begin (o := 0) (E := 5) HBLK0.out hpart.row hpart.row' hpart.rows HTG.out ((Fr.refl [] wa).alloc _) hA1
      have t0 : w1.cell? ⟨g, 0, none⟩ = some (kval B.u.r0) := blk_cell' hb1 rfl
      have t1 : w1.frozen? ⟨g, 0, none⟩ = false := blk_free hb1 _
      obtain ⟨sp, sn, sc, hks⟩ : ∃ p n c, kval r0' = .slice p n c := ⟨_, _, _, kval_eq r0'⟩
      rw [hks] at hhalf ⊢
      have HH1 := Lib.hid hhalf
      have HKS := Lib.hid hks
      have HC1 : Hid ((B.cells.set 12 (.int .i64 (B.n + kn + 1)))[1]? = some (kval B.u.r1)) := Lib.hid rfl
      clear hhalf hks hA1 hb1 hpart hg46 c0 c12 f12
      go_wp2_with fail
      generalize w1.setCell ⟨g, 0, none⟩ (.slice sp sn sc) = wx at *
      have HLE := Lib.hid HH1.out.fr.size
      have HKK : Hid (∀ w', Fr [] wx w' → kok w' 5 k) := Lib.hid (fun w' hf => (HK.out.fr HH1.out.fr (fun x hx hm => by
        have hb := HK.out.blk x hx
        rcases List.mem_cons.1 hm with rfl | hm
        · exact hb.ne HBA.out HEG.out rfl
        · rcases List.mem_append.1 hm with hm | hm
          · exact far HPART.out.row.blk HET.out hb hm
          · exact far HPART.out.row'.blk HET.out hb hm)).fr hf (fun _ _ => List.not_mem_nil))
      have HONE : Hid (∀ v ∈ kl k, v.oneCell' = true) := Lib.hid (fun v hv => by obtain ⟨b, rfl⟩ := HGD.out v hv; rfl)
      have HNM : Hid ((kl B.u.r1).length ≤ 1073941826) := Lib.hid (by
        have := congrArg List.length HPART.out.rowl'
        have h1 := congrArg List.length HPART.out.same
        rw [List.length_map] at this
        rw [List.length_map, List.length_map] at h1
        have := HBK.out.nu; have := HBK.out.n1; omega)
      have hs : wx.drew.cell? ⟨g, 1, none⟩ = some (kval B.u.r1) := (HH1.out.quiet (Fr.drew (Fr.refl [] _))).at1 HC1.out (by decide)
      refine wp_region_G (n := 12) (S := fun w' => w'.cell? ⟨g, 1, none⟩ = some (kval B.u.r1)) (by kernel_rfl) hs (fun hHeld => ?_)
-- 13 operations
      refine wpG_take (i := 0) (oi := ⟨some 27, _, _, _, _, _⟩) (v := ?v0) rfl (by kernel_rfl) (by kernel_rfl) (fun _ _ _ h => h) (Or.inl ⟨by rfl, ?hy0⟩) (by assumption) ?rest0
      case hy0 => (intro w hSw; (try dsimp only at hSw); go_simp; try with_reducible rfl)
      try simp only [Act.put, List.setIfInBounds_toArray, List.set_cons_zero, List.set_cons_succ]
      refine wpG_take (i := 1) (oi := ⟨some 28, _, _, _, _, _⟩) (v := ?v1) rfl (by kernel_rfl) (by kernel_rfl) (fun _ _ _ h => h) (Or.inl ⟨by rfl, ?hy1⟩) (by assumption) ?rest1
      case hy1 => (intro w hSw; (try dsimp only at hSw); go_simp; try with_reducible rfl)
      try simp only [Act.put, List.setIfInBounds_toArray, List.set_cons_zero, List.set_cons_succ]
      refine wpG_take (i := 2) (oi := ⟨some 29, _, _, _, _, _⟩) (v := ?v2) rfl (by kernel_rfl) (by kernel_rfl) (fun _ _ _ h => h) (Or.inl ⟨by rfl, ?hy2⟩) (by assumption) ?rest2
      case hy2 => (intro w hSw; (try dsimp only at hSw); go_simp; try with_reducible rfl)
      try simp only [Act.put, List.setIfInBounds_toArray, List.set_cons_zero, List.set_cons_succ]
      refine wpG_take (i := 3) (oi := ⟨some 30, _, _, _, _, _⟩) (v := ?v3) rfl (by kernel_rfl) (by kernel_rfl) (fun _ _ _ h => h) (Or.inl ⟨by rfl, ?hy3⟩) (by assumption) ?rest3
      case hy3 => (intro w hSw; (try dsimp only at hSw); go_simp; try with_reducible rfl)
      try simp only [Act.put, List.setIfInBounds_toArray, List.set_cons_zero, List.set_cons_succ]
      refine wpG_take (i := 4) (oi := ⟨some 31, _, _, _, _, _⟩) (v := ?v4) rfl (by kernel_rfl) (by kernel_rfl) (fun _ _ _ h => h) (Or.inl ⟨by rfl, ?hy4⟩) (by assumption) ?rest4
      case hy4 => (intro w hSw; (try dsimp only at hSw); go_simp; try with_reducible rfl)
      try simp only [Act.put, List.setIfInBounds_toArray, List.set_cons_zero, List.set_cons_succ]
      refine wpG_take (i := 6) (oi := ⟨some 33, _, _, _, _, _⟩) (v := ?v6) rfl (by kernel_rfl) (by kernel_rfl) (fun _ _ _ h => h) (Or.inl ⟨by rfl, ?hy6⟩) (by assumption) ?rest6
      case hy6 => (intro w hSw; (try dsimp only at hSw); go_simp; try with_reducible rfl)
      try simp only [Act.put, List.setIfInBounds_toArray, List.set_cons_zero, List.set_cons_succ]
      refine wpG_ready (rs := [5]) (by kernel_rfl) (by simp) (AllReadyG.cons (o := ⟨some 32, _, _, _, _, _⟩) rfl (fun K hK => ?_) AllReadyG.nil)
      go_simp
      have f5 : Fr [] wx (wx.drew.alloc (.cells #[] 5)) := (Fr.drew (Fr.refl [] _)).alloc _
      have c5 := (HH1.out.quiet f5).at1 HC1.out (by decide)
      refine hK.out _ _ (fun _ => ?_) (fun hHeld0 => ?_)
      · assumption
      have hHeld := hHeld0 (by decide)
      clear hHeld0
      clear hK K
      try simp only [Act.put, List.setIfInBounds_toArray, List.set_cons_zero, List.set_cons_succ]
      refine wpG_ready (rs := [7]) (by kernel_rfl) (by simp) (AllReadyG.cons (o := ⟨some 34, _, _, _, _, _⟩) rfl (fun K hK => ?_) AllReadyG.nil)
      refine wp_appk rfl _ _ 31 rfl 5 ii (.int .u8 0) 1 Try.underlying31 hii hz0 hz1 hz2 rfl (some ⟨wx.heap.size, [], [], [], []⟩) k rfl ⟨heap_new _ _, Nat.zero_le _⟩ HKX.out.symm (HKK.out _ f5) HONE.out (by have := HSM.out; rw [show kl (some (⟨wx.heap.size, [], [], [], []⟩ : Kp)) = [] from rfl, List.length_nil]; omega) (by have := HSM.out; rw [show kl (some (⟨wx.heap.size, [], [], [], []⟩ : Kp)) = [] from rfl, List.length_nil]; unfold maxLen; omega) ?_
      intro v2 w2 hA2
      obtain ⟨k', rfl, hk', hkl', hkg', hf2⟩ := hA2.fresh ⟨heap_new _ _, Nat.zero_le _⟩
      have f7 : Fr [] wx w2 := f5.trans hf2 (by simp [kg])
      have hh2 := HH1.out.quiet f7
      have c7 := hh2.at1 HC1.out (by decide)
      have HH := Lib.hid hh2
      have HKL2 := Lib.hid (show kl k' = kl k from hkl')
      have HKG : Hid (∀ x ∈ kg k', wx.heap.size ≤ x) := Lib.hid (fun x hx => by
        rcases hkg' x hx with h | h
        · exact Nat.le_of_eq (show x = wx.heap.size by simpa [kg] using h).symm
        · exact Nat.le_trans f5.size h)
      have HKO := Lib.hid hk'
      obtain ⟨lp, ln, lc, hkv⟩ : ∃ p n c, kval k' = .slice p n c := ⟨_, _, _, kval_eq k'⟩
      rw [hkv]
      have HKV := Lib.hid hkv
      clear hA2 hk' hkl' hkg' hf2 hkv hh2
      refine hK.out _ _ (fun _ => ?_) (fun hHeld0 => ?_)
      · assumption
      have hHeld := hHeld0 (by decide)
      clear hHeld0
      clear hK K
      try simp only [Act.put, List.setIfInBounds_toArray, List.set_cons_zero, List.set_cons_succ]
      refine wpG_ready (rs := [8]) (by kernel_rfl) (by simp) (AllReadyG.cons (o := ⟨some 35, _, _, _, _, _⟩) rfl (fun K hK => ?_) AllReadyG.nil)
      go_simp
      have f8 : Fr [] w2 (w2.alloc (.cells #[.slice lp ln lc] 31)) := (Fr.refl [] _).alloc _
      have c8 := (HH.out.quiet f8).at1 HC1.out (by decide)
      refine hK.out _ _ (fun _ => ?_) (fun hHeld0 => ?_)
      · assumption
      have hHeld := hHeld0 (by decide)
      clear hHeld0
      clear hK K
      try simp only [Act.put, List.setIfInBounds_toArray, List.set_cons_zero, List.set_cons_succ]
      refine wpG_ready (rs := [9]) (by kernel_rfl) (by simp) (AllReadyG.cons (o := ⟨some 36, _, _, _, _, _⟩) rfl (fun K hK => ?_) AllReadyG.nil)
      refine wp_app rfl _ _ 42 rfl 31 jj (.slice none 0 0) 24 Try.underlying42 hjj hy0 hy1 hy2 rfl B.u.r1 rfl (HH.out.quiet f8).row1 _ 1 1 rfl [.slice lp ln lc] rfl (cells_new1 _ _ _) (fun v hv => by rw [List.mem_singleton.1 hv]; rfl) (by have := HNM.out; omega) (by have := HNM.out; unfold maxLen; omega) ?_
      intro v3 w3 hA3
      have hgn := far (HH.out.quiet f8).row1.blk HTG.out.symm ⟨_, (HH.out.quiet f8).blk⟩
      have s1 := hA3.fr.cell c8 hgn
      have s2 : w3.frozen? ⟨g, 1, none⟩ = false := blk_free (hA3.fr.heap (HH.out.quiet f8).blk hgn) _
      obtain ⟨r1', rfl, hfin⟩ := (HH.out.quiet f8).done (o1 := 1) HPART.out HET.out HEG.out HTG.out HBA.out HK.out HKN.out HSM.out HGD.out (HKO.out.fr f8 (fun _ _ => List.not_mem_nil)) HKL2.out (fun x hx => Nat.le_trans HLE.out (HKG.out x hx)) (by rw [HKV.out]; exact hA3)
      have HFIN := Lib.hid hfin
      obtain ⟨rp, rn, rc, hkr⟩ : ∃ p n c, kval r1' = .slice p n c := ⟨_, _, _, kval_eq r1'⟩
      rw [hkr] at HFIN ⊢
      have HKR := Lib.hid hkr
      clear hfin hA3 hgn hkr
      refine hK.out _ _ (fun _ => ?_) (fun hHeld0 => ?_)
      · assumption
      have hHeld := hHeld0 (by decide)
      clear hHeld0
      clear hK K
      try simp only [Act.put, List.setIfInBounds_toArray, List.set_cons_zero, List.set_cons_succ]
      refine wpG_take (i := 10) (oi := ⟨some 37, _, _, _, _, _⟩) (v := ?v10) rfl (by kernel_rfl) (by kernel_rfl) (fun _ _ _ h => h) (Or.inl ⟨by rfl, ?hy10⟩) (by assumption) ?rest10
      case hy10 => (intro w hSw; (try dsimp only at hSw); go_simp; try with_reducible rfl)
      try simp only [Act.put, List.setIfInBounds_toArray, List.set_cons_zero, List.set_cons_succ]
      refine wpG_take (i := 11) (oi := ⟨some 38, _, _, _, _, _⟩) (v := ?v11) rfl (by kernel_rfl) (by kernel_rfl) (fun _ _ _ h => h) (Or.inl ⟨by rfl, ?hy11⟩) (by assumption) ?rest11
      case hy11 => (intro w hSw; (try dsimp only at hSw); go_simp; try with_reducible rfl)
      try simp only [Act.put, List.setIfInBounds_toArray, List.set_cons_zero, List.set_cons_succ]
      refine wpG_ready (rs := [12]) (by kernel_rfl) (by simp) (AllReadyG.cons (o := ⟨none, _, _, _, _, _⟩) rfl (fun K hK => ?_) AllReadyG.nil)
      go_simp
      refine hK.out _ _ (fun h => absurd h (by decide)) (fun _ => ?_)
      clear hK K
      try simp only [Act.put, List.setIfInBounds_toArray, List.set_cons_zero, List.set_cons_succ]
      refine wpG_done (by kernel_rfl) ?_ _
      go_wp2_with fail
      go_end0
      obtain ⟨fb, fp, ff, fk⟩ := HFIN.out
      have hwa : wa.heap.size = w.heap.size := hwsz
      have hS0 : ∀ x ∈ g :: (kg B.u.r0 ++ kg B.u.r1), Blk w 46 x ∨ Blk w 31 x := fun x hx => by
        rcases List.mem_cons.1 hx with rfl | hx
        · exact Or.inl ⟨_, HBK.out.blk⟩
        · rcases List.mem_append.1 hx with hx | hx
          · exact Or.inr (HBK.out.u.row.blk x hx)
          · exact Or.inr (HBK.out.u.row'.blk x hx)
      have hFall := Fr.trans (S := g :: (kg B.u.r0 ++ kg B.u.r1)) (HF0.out.mono (fun x hx => Or.inl (by rw [List.mem_singleton.1 hx]; simp))) ff (fun x hx => Or.inl hx)
      have hother : ∀ {E T : TypeId} {Good : Value → Prop} {p : Prt}, IsPart w E T Good p → E ≠ 46 → E ≠ 31 → T ≠ 46 → T ≠ 31 → IsPart (w3.setCell ⟨g, 1, none⟩ (.slice rp rn rc)) E T Good p := fun hq a1 a2 a3 a4 => hq.fr hFall (fun x hx hm => by
        rcases hq.blk x hx with h1 | h1 <;> rcases hS0 x hm with h2 | h2
        · exact h1.ne h2 a1 rfl
        · exact h1.ne h2 a2 rfl
        · exact h1.ne h2 a3 rfl
        · exact h1.ne h2 a4 rfl)
      have hkl := HKL.out
      have hsm := HSM.out
      have hn0 := HN0.out
      have hnf := HNF.out
      have l1 := HBK.out.nu
      have l2 := HBK.out.ni
      have l3 := HBK.out.nt
      refine ⟨rfl, ⟨⟨B.u.ks ++ [k], B.u.ws ++ [k'], r0', r1'⟩, B.i, B.t, B.n + kn + 1⟩, ⟨?_, fp, hother HBK.out.i (by decide) (by decide) (by decide) (by decide), hother HBK.out.t (by decide) (by decide) (by decide) (by decide), ?_, ?_, ?_, ?_, ?_⟩, hFall.mono ?_, ?_, rfl, rfl⟩
      · rw [← HKR.out] at fb ⊢; exact fb
      · show (0 : Int) ≤ B.n + kn + 1; omega
      · show B.n + kn + 1 ≤ (1073941826 : Int); omega
      · simp only [List.length_append, List.length_singleton]; omega
      · show (B.i.ks.length : Int) ≤ B.n + kn + 1; omega
      · show (B.t.ks.length : Int) ≤ B.n + kn + 1; omega
      · intro x hx
        left
        rcases List.mem_cons.1 hx with rfl | hx
        · exact Bk.mem.2 (Or.inl rfl)
        · rcases List.mem_append.1 hx with hx | hx
          · exact Bk.mem.2 (Or.inr (Or.inl (Prt.mem.2 (Or.inl hx))))
          · exact Bk.mem.2 (Or.inr (Or.inl (Prt.mem.2 (Or.inr (Or.inl hx)))))
      · intro x hx
        rcases Bk.mem.1 hx with hx | hx | hx | hx
        · exact Or.inl (Bk.mem.2 (Or.inl hx))
        · rcases fk x hx with h1 | h1 | h1
          · exact Or.inl (Bk.mem.2 (Or.inr (Or.inl h1)))
          · exact Or.inr (Or.inl h1)
          · exact Or.inr (Or.inr (by omega))
        · exact Or.inl (Bk.mem.2 (Or.inr (Or.inr (Or.inl hx))))
        · exact Or.inl (Bk.mem.2 (Or.inr (Or.inr (Or.inr hx))))
end Go.Proofs.Ytmdmdjolfahjbaa
