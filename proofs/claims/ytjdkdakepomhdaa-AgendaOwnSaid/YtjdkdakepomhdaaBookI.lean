/- A Book takes a list of ints in. -/
import Derived.Test.YtjdkdakepomhdaaBookB
import Derived.Test.YtjdkdakepomhdaaCloseI
namespace Go.Proofs.Ytjdkdakepomhdaa
open Go.RowKit

set_option maxRecDepth 100000 in
set_option maxHeartbeats 2000000 in
/-- A list of ints is taken in. -/
theorem bytesI_ok {w : World} {g : Nat} {B : Bk} {k : Option Kp} (h : IsBook w g B) (hk : kok w 3 k) (hkn : ∀ x ∈ kg k, x ∉ B.blocks g) (hsm : (kl k).length ≤ 1073741824) (hgd : ∀ v ∈ kl k, GoodI v) :
    Calls Try.prog 20 #[.pointer (some ⟨g, 0, none⟩), kval k] w fun e w' => e = .returned (.tuple #[]) ∧
      ∃ B', IsBook w' g B' ∧ Fr (B.blocks g) w w' ∧ (∀ x ∈ B'.blocks g, x ∈ B.blocks g ∨ x ∈ kg k ∨ w.heap.size ≤ x) ∧ B'.u = B.u ∧ B'.t = B.t := by
  obtain ⟨kp, kn, kc, hkv, hkn2⟩ : ∃ p n c, kval k = .slice p n c ∧ n = (kl k).length := ⟨_, _, _, kval_eq k, rfl⟩
  by_cases hfull : 200000 < B.n
  · have gd : decide (200000 < B.n) = true := by simpa using hfull
    rw [hkv]
    go_enter Try.func20, Try.ntmps20
    go_wp2_with fail
    refine (full_ok h).mono ?_
    rintro e w' ⟨rfl, rfl⟩
    go_wp2_with fail
    refine bodyPost_ret (results_none rfl _ _ _) rfl ?_
    exact ⟨rfl, B, h, Fr.refl _ _, fun x hx => Or.inl hx, rfl, rfl⟩
  · have gd : decide (200000 < B.n) = false := by simpa using hfull
    have hET : 3 ≠ 40 := by decide
    have hEG : 3 ≠ 55 := by decide
    have hTG : 40 ≠ 55 := by decide
    obtain ⟨ii, hii, hz0, hz1, hz2⟩ := info_parts Try.infoBI
    obtain ⟨jj, hjj, hy0, hy1, hy2⟩ := info_parts Try.infoBSlI
    have c12 := h.cellAt (j := 12) rfl
    have f12 := h.free 12
    have hn0 := h.n0
    have e1 : wrap64 (B.n + kn) = B.n + kn := IntWalk.wrap64_in _ (by omega)
    have e2 : wrap64 (B.n + kn + 1) = B.n + kn + 1 := IntWalk.wrap64_in _ (by omega)
    have HF0 := Lib.hid (Fr.set (S := [g]) (Fr.refl _ w) (p := ⟨g, 12, none⟩) (Or.inl (by simp)) (.int .i64 (B.n + kn + 1)))
    have hblk0 := blk_set h.blk 12 (.int .i64 (B.n + kn + 1))
    rw [List.setIfInBounds_toArray] at hblk0
    have HSM := Lib.hid hsm
    have HKN0 := Lib.hid hkn
    have HKL := Lib.hid hkn2
    have HKX := Lib.hid hkv
    have HGD := Lib.hid hgd
    have HBK := Lib.hid h
    have HKK0 := Lib.hid hk
    have HBLK0 := Lib.hid hblk0
    have HET := Lib.hid hET
    have HEG := Lib.hid hEG
    have HTG := Lib.hid hTG
    have c0 := h.cellAt (j := 4) rfl
    have HN0 := Lib.hid hn0
    have HNF := Lib.hid hfull
    rw [hkv]
    clear hsm hkn hkn2 hkv hgd h hk hblk0 hET hEG hTG hn0 hfull
    go_enter Try.func20, Try.ntmps20
    go_wp2_with fail
    refine (full_ok HBK.out).mono ?_
    rintro e w' ⟨rfl, rfl⟩
    go_wp2_with (at_builtin; refine wpList_app rfl _ _ 52 rfl 40 jj (.slice none 0 0) 24 Try.underlying52 hjj hy0 hy1 hy2 rfl B.i.r0 rfl ?_ _ 1 1 rfl [.slice kp kn kc] rfl ?_ ?_ ?_ ?_ ?_)
    · exact (HBK.out.i.row.fr HF0.out (fun x hx => far (T := 55) (fun y hy => by rw [List.mem_singleton.1 hy]; exact ⟨_, HBK.out.blk⟩) HTG.out (HBK.out.i.row.blk x hx))).fr ((Fr.refl [] _).alloc _) (fun _ _ => List.not_mem_nil)
    · simpa using cells_new1 (w.setCell ⟨g, 12, none⟩ (.int .i64 (B.n + kn + 1))) 40 (.slice kp kn kc)
    · intro v hv; rw [List.mem_singleton.1 hv]; rfl
    · have := HBK.out.i.rowl; have h1 := congrArg List.length this; rw [List.length_map] at h1; have := HBK.out.ni; have := HBK.out.n1; omega
    · have := HBK.out.i.rowl; have h1 := congrArg List.length this; rw [List.length_map] at h1; have := HBK.out.ni; have := HBK.out.n1; unfold maxLen; omega
    · intro v1 w1 hA1
      have hg46 : ∀ x ∈ [g], Blk w 55 x := fun x hx => by rw [List.mem_singleton.1 hx]; exact ⟨_, HBK.out.blk⟩
      have hwsz : (w.setCell ⟨g, 12, none⟩ (.int .i64 (B.n + kn + 1))).heap.size = w.heap.size := by simp [World.setCell]
      generalize w.setCell ⟨g, 12, none⟩ (.int .i64 (B.n + kn + 1)) = wa at *
      have hpart : IsPart wa 3 40 GoodI B.i := HBK.out.i.fr HF0.out (fun x hx => by
        rcases HBK.out.i.blk x hx with h | h
        · exact far hg46 HEG.out h
        · exact far hg46 HTG.out h)
      have HPART := Lib.hid hpart
      have HBA : Hid (Blk wa 55 g) := Lib.hid ⟨_, HBLK0.out⟩
      have HK : Hid (kok wa 3 k) := Lib.hid (HKK0.out.fr HF0.out (fun x hx => far hg46 HEG.out (HKK0.out.blk x hx)))
      have HKN : Hid (∀ x ∈ kg k, x ∉ B.i.blocks) := Lib.hid (fun x hx hm => HKN0.out x hx (Bk.mem.2 (Or.inr (Or.inr (Or.inl hm)))))
      rw [← HKX.out] at hA1
      obtain ⟨r0', rfl, hb1, hhalf⟩ := Half.begin (o := 4) (E := 3) HBLK0.out hpart.row hpart.row' hpart.rows HTG.out ((Fr.refl [] wa).alloc _) hA1
      have t0 : w1.cell? ⟨g, 4, none⟩ = some (kval B.i.r0) := blk_cell' hb1 rfl
      have t1 : w1.frozen? ⟨g, 4, none⟩ = false := blk_free hb1 _
      obtain ⟨sp, sn, sc, hks⟩ : ∃ p n c, kval r0' = .slice p n c := ⟨_, _, _, kval_eq r0'⟩
      rw [hks] at hhalf ⊢
      have HH1 := Lib.hid hhalf
      have HKS := Lib.hid hks
      have HC1 : Hid ((B.cells.set 12 (.int .i64 (B.n + kn + 1)))[5]? = some (kval B.i.r1)) := Lib.hid rfl
      clear hhalf hks hA1 hb1 hpart hg46 c0 c12 f12
      go_wp2_with fail
      generalize w1.setCell ⟨g, 4, none⟩ (.slice sp sn sc) = wx at *
      have HLE := Lib.hid HH1.out.fr.size
      have HKK : Hid (∀ w', Fr [] wx w' → kok w' 3 k) := Lib.hid (fun w' hf => (HK.out.fr HH1.out.fr (fun x hx hm => by
        have hb := HK.out.blk x hx
        rcases List.mem_cons.1 hm with rfl | hm
        · exact hb.ne HBA.out HEG.out rfl
        · rcases List.mem_append.1 hm with hm | hm
          · exact far HPART.out.row.blk HET.out hb hm
          · exact far HPART.out.row'.blk HET.out hb hm)).fr hf (fun _ _ => List.not_mem_nil))
      have HONE : Hid (∀ v ∈ kl k, v.oneCell' = true) := Lib.hid (fun v hv => by obtain ⟨b, rfl⟩ := HGD.out v hv; rfl)
      have HNM : Hid ((kl B.i.r1).length ≤ 1073941826) := Lib.hid (by
        have := congrArg List.length HPART.out.rowl'
        have h1 := congrArg List.length HPART.out.same
        rw [List.length_map] at this
        rw [List.length_map, List.length_map] at h1
        have := HBK.out.ni; have := HBK.out.n1; omega)
      have hs : wx.drew.cell? ⟨g, 5, none⟩ = some (kval B.i.r1) := (HH1.out.quiet (Fr.drew (Fr.refl [] _))).at1 HC1.out (by decide)
      refine wp_region_G (n := 12) (S := fun w' => w'.cell? ⟨g, 5, none⟩ = some (kval B.i.r1)) (by kernel_rfl) hs (fun hHeld => ?_)
-- 13 operations
      refine wpG_take (i := 0) (oi := ⟨some 27, _, _, _, _, _⟩) (v := ?v0) rfl (by kernel_rfl) (by kernel_rfl) (fun _ _ _ h => h) (Or.inl ⟨by rfl, ?hy0⟩) (by assumption) ?rest0
      case hy0 => (intro w hSw; (try dsimp only at hSw); go_simp; try with_reducible rfl)
      try simp only [Act.put, List.setIfInBounds_toArray, List.set_cons_zero, List.set_cons_succ]
      refine wpG_take (i := 1) (oi := ⟨some 28, _, _, _, _, _⟩) (v := ?v1) rfl (by kernel_rfl) (by kernel_rfl) (fun _ _ _ h => h) (Or.inl ⟨by rfl, ?hy1⟩) (by assumption) ?rest1
      case hy1 => (intro w hSw; (try dsimp only at hSw); go_simp; try with_reducible rfl)
      try simp only [Act.put, List.setIfInBounds_toArray, List.set_cons_zero, List.set_cons_succ]
      refine wpG_take (i := 2) (oi := ⟨some 29, _, _, _, _, _⟩) (v := ?v2) rfl (by kernel_rfl) (by kernel_rfl) (fun _ _ _ h => h) (Or.inl ⟨by rfl, ?hy2⟩) (by assumption) ?rest2
      case hy2 => (intro w hSw; (try dsimp only at hSw); go_simp; try with_reducible rfl)
      try simp only [Act.put, List.setIfInBounds_toArray, List.set_cons_zero, List.set_cons_succ]
      refine wpG_take (i := 3) (oi := ⟨some 30, _, _, _, _, _⟩) (v := ?v3) rfl (by kernel_rfl) (by kernel_rfl) (fun _ _ _ h => h) (Or.inl ⟨by rfl, ?hy3⟩) (by assumption) ?rest3
      case hy3 => (intro w hSw; (try dsimp only at hSw); go_simp; try with_reducible rfl)
      try simp only [Act.put, List.setIfInBounds_toArray, List.set_cons_zero, List.set_cons_succ]
      refine wpG_take (i := 4) (oi := ⟨some 31, _, _, _, _, _⟩) (v := ?v4) rfl (by kernel_rfl) (by kernel_rfl) (fun _ _ _ h => h) (Or.inl ⟨by rfl, ?hy4⟩) (by assumption) ?rest4
      case hy4 => (intro w hSw; (try dsimp only at hSw); go_simp; try with_reducible rfl)
      try simp only [Act.put, List.setIfInBounds_toArray, List.set_cons_zero, List.set_cons_succ]
      refine wpG_take (i := 6) (oi := ⟨some 33, _, _, _, _, _⟩) (v := ?v6) rfl (by kernel_rfl) (by kernel_rfl) (fun _ _ _ h => h) (Or.inl ⟨by rfl, ?hy6⟩) (by assumption) ?rest6
      case hy6 => (intro w hSw; (try dsimp only at hSw); go_simp; try with_reducible rfl)
      try simp only [Act.put, List.setIfInBounds_toArray, List.set_cons_zero, List.set_cons_succ]
      refine wpG_ready (rs := [5]) (by kernel_rfl) (by simp) (AllReadyG.cons (o := ⟨some 32, _, _, _, _, _⟩) rfl (fun K hK => ?_) AllReadyG.nil)
      go_simp
      have f5 : Fr [] wx (wx.drew.alloc (.cells #[] 3)) := (Fr.drew (Fr.refl [] _)).alloc _
      have c5 := (HH1.out.quiet f5).at1 HC1.out (by decide)
      refine hK.out _ _ (fun _ => ?_) (fun hHeld0 => ?_)
      · assumption
      have hHeld := hHeld0 (by decide)
      clear hHeld0
      clear hK K
      try simp only [Act.put, List.setIfInBounds_toArray, List.set_cons_zero, List.set_cons_succ]
      refine wpG_ready (rs := [7]) (by kernel_rfl) (by simp) (AllReadyG.cons (o := ⟨some 34, _, _, _, _, _⟩) rfl (fun K hK => ?_) AllReadyG.nil)
      refine wp_appk rfl _ _ 40 rfl 3 ii (.int .i64 0) 8 Try.underlying40 hii hz0 hz1 hz2 rfl (some ⟨wx.heap.size, [], [], [], []⟩) k rfl ⟨heap_new _ _, Nat.zero_le _⟩ HKX.out.symm (HKK.out _ f5) HONE.out (by have := HSM.out; rw [show kl (some (⟨wx.heap.size, [], [], [], []⟩ : Kp)) = [] from rfl, List.length_nil]; omega) (by have := HSM.out; rw [show kl (some (⟨wx.heap.size, [], [], [], []⟩ : Kp)) = [] from rfl, List.length_nil]; unfold maxLen; omega) ?_
      intro v2 w2 hA2
      obtain ⟨k', rfl, hk', hkl', hkg', hf2⟩ := hA2.fresh ⟨heap_new _ _, Nat.zero_le _⟩
      have f7 : Fr [] wx w2 := f5.trans hf2 (by simp [kg])
      have hh2 := HH1.out.quiet f7
      have c7 := hh2.at1 HC1.out (by decide)
      have HH := Lib.hid hh2
      have HKL2 := Lib.hid (show kl k' = kl k from hkl')
      have HKG : Hid (∀ x ∈ kg k', wx.heap.size ≤ x) := Lib.hid (fun x hx => by
        rcases hkg' x hx with h | h
        · exact Nat.le_of_eq (show x = wx.heap.size by simpa [kg] using h).symm
        · exact Nat.le_trans f5.size h)
      have HKO := Lib.hid hk'
      obtain ⟨lp, ln, lc, hkv⟩ : ∃ p n c, kval k' = .slice p n c := ⟨_, _, _, kval_eq k'⟩
      rw [hkv]
      have HKV := Lib.hid hkv
      clear hA2 hk' hkl' hkg' hf2 hkv hh2
      refine hK.out _ _ (fun _ => ?_) (fun hHeld0 => ?_)
      · assumption
      have hHeld := hHeld0 (by decide)
      clear hHeld0
      clear hK K
      try simp only [Act.put, List.setIfInBounds_toArray, List.set_cons_zero, List.set_cons_succ]
      refine wpG_ready (rs := [8]) (by kernel_rfl) (by simp) (AllReadyG.cons (o := ⟨some 35, _, _, _, _, _⟩) rfl (fun K hK => ?_) AllReadyG.nil)
      go_simp
      have f8 : Fr [] w2 (w2.alloc (.cells #[.slice lp ln lc] 40)) := (Fr.refl [] _).alloc _
      have c8 := (HH.out.quiet f8).at1 HC1.out (by decide)
      refine hK.out _ _ (fun _ => ?_) (fun hHeld0 => ?_)
      · assumption
      have hHeld := hHeld0 (by decide)
      clear hHeld0
      clear hK K
      try simp only [Act.put, List.setIfInBounds_toArray, List.set_cons_zero, List.set_cons_succ]
      refine wpG_ready (rs := [9]) (by kernel_rfl) (by simp) (AllReadyG.cons (o := ⟨some 36, _, _, _, _, _⟩) rfl (fun K hK => ?_) AllReadyG.nil)
      refine wp_app rfl _ _ 52 rfl 40 jj (.slice none 0 0) 24 Try.underlying52 hjj hy0 hy1 hy2 rfl B.i.r1 rfl (HH.out.quiet f8).row1 _ 1 1 rfl [.slice lp ln lc] rfl (cells_new1 _ _ _) (fun v hv => by rw [List.mem_singleton.1 hv]; rfl) (by have := HNM.out; omega) (by have := HNM.out; unfold maxLen; omega) ?_
      intro v3 w3 hA3
      have hgn := far (HH.out.quiet f8).row1.blk HTG.out.symm ⟨_, (HH.out.quiet f8).blk⟩
      have s1 := hA3.fr.cell c8 hgn
      have s2 : w3.frozen? ⟨g, 5, none⟩ = false := blk_free (hA3.fr.heap (HH.out.quiet f8).blk hgn) _
      obtain ⟨r1', rfl, hfin⟩ := (HH.out.quiet f8).done (o1 := 5) HPART.out HET.out HEG.out HTG.out HBA.out HK.out HKN.out HSM.out HGD.out (HKO.out.fr f8 (fun _ _ => List.not_mem_nil)) HKL2.out (fun x hx => Nat.le_trans HLE.out (HKG.out x hx)) (by rw [HKV.out]; exact hA3)
      have HFIN := Lib.hid hfin
      obtain ⟨rp, rn, rc, hkr⟩ : ∃ p n c, kval r1' = .slice p n c := ⟨_, _, _, kval_eq r1'⟩
      rw [hkr] at HFIN ⊢
      have HKR := Lib.hid hkr
      clear hfin hA3 hgn hkr
      refine hK.out _ _ (fun _ => ?_) (fun hHeld0 => ?_)
      · assumption
      have hHeld := hHeld0 (by decide)
      clear hHeld0
      clear hK K
      try simp only [Act.put, List.setIfInBounds_toArray, List.set_cons_zero, List.set_cons_succ]
      refine wpG_take (i := 10) (oi := ⟨some 37, _, _, _, _, _⟩) (v := ?v10) rfl (by kernel_rfl) (by kernel_rfl) (fun _ _ _ h => h) (Or.inl ⟨by rfl, ?hy10⟩) (by assumption) ?rest10
      case hy10 => (intro w hSw; (try dsimp only at hSw); go_simp; try with_reducible rfl)
      try simp only [Act.put, List.setIfInBounds_toArray, List.set_cons_zero, List.set_cons_succ]
      refine wpG_take (i := 11) (oi := ⟨some 38, _, _, _, _, _⟩) (v := ?v11) rfl (by kernel_rfl) (by kernel_rfl) (fun _ _ _ h => h) (Or.inl ⟨by rfl, ?hy11⟩) (by assumption) ?rest11
      case hy11 => (intro w hSw; (try dsimp only at hSw); go_simp; try with_reducible rfl)
      try simp only [Act.put, List.setIfInBounds_toArray, List.set_cons_zero, List.set_cons_succ]
      refine wpG_ready (rs := [12]) (by kernel_rfl) (by simp) (AllReadyG.cons (o := ⟨none, _, _, _, _, _⟩) rfl (fun K hK => ?_) AllReadyG.nil)
      go_simp
      refine hK.out _ _ (fun h => absurd h (by decide)) (fun _ => ?_)
      clear hK K
      try simp only [Act.put, List.setIfInBounds_toArray, List.set_cons_zero, List.set_cons_succ]
      refine wpG_done (by kernel_rfl) ?_ _
      go_wp2_with fail
      go_end0
      obtain ⟨fb, fp, ff, fk⟩ := HFIN.out
      have hwa : wa.heap.size = w.heap.size := hwsz
      have hS0 : ∀ x ∈ g :: (kg B.i.r0 ++ kg B.i.r1), Blk w 55 x ∨ Blk w 40 x := fun x hx => by
        rcases List.mem_cons.1 hx with rfl | hx
        · exact Or.inl ⟨_, HBK.out.blk⟩
        · rcases List.mem_append.1 hx with hx | hx
          · exact Or.inr (HBK.out.i.row.blk x hx)
          · exact Or.inr (HBK.out.i.row'.blk x hx)
      have hFall := Fr.trans (S := g :: (kg B.i.r0 ++ kg B.i.r1)) (HF0.out.mono (fun x hx => Or.inl (by rw [List.mem_singleton.1 hx]; simp))) ff (fun x hx => Or.inl hx)
      have hother : ∀ {E T : TypeId} {Good : Value → Prop} {p : Prt}, IsPart w E T Good p → E ≠ 55 → E ≠ 40 → T ≠ 55 → T ≠ 40 → IsPart (w3.setCell ⟨g, 5, none⟩ (.slice rp rn rc)) E T Good p := fun hq a1 a2 a3 a4 => hq.fr hFall (fun x hx hm => by
        rcases hq.blk x hx with h1 | h1 <;> rcases hS0 x hm with h2 | h2
        · exact h1.ne h2 a1 rfl
        · exact h1.ne h2 a2 rfl
        · exact h1.ne h2 a3 rfl
        · exact h1.ne h2 a4 rfl)
      have hkl := HKL.out
      have hsm := HSM.out
      have hn0 := HN0.out
      have hnf := HNF.out
      have l1 := HBK.out.ni
      have l2 := HBK.out.nu
      have l3 := HBK.out.nt
      refine ⟨rfl, ⟨B.u, ⟨B.i.ks ++ [k], B.i.ws ++ [k'], r0', r1'⟩, B.t, B.n + kn + 1⟩, ⟨?_, hother HBK.out.u (by decide) (by decide) (by decide) (by decide), fp, hother HBK.out.t (by decide) (by decide) (by decide) (by decide), ?_, ?_, ?_, ?_, ?_⟩, hFall.mono ?_, ?_, rfl, rfl⟩
      · rw [← HKR.out] at fb ⊢; exact fb
      · show (0 : Int) ≤ B.n + kn + 1; omega
      · show B.n + kn + 1 ≤ (1073941826 : Int); omega
      · show (B.u.ks.length : Int) ≤ B.n + kn + 1; omega
      · simp only [List.length_append, List.length_singleton]; omega
      · show (B.t.ks.length : Int) ≤ B.n + kn + 1; omega
      · intro x hx
        left
        rcases List.mem_cons.1 hx with rfl | hx
        · exact Bk.mem.2 (Or.inl rfl)
        · rcases List.mem_append.1 hx with hx | hx
          · exact Bk.mem.2 (Or.inr (Or.inr (Or.inl (Prt.mem.2 (Or.inl hx)))))
          · exact Bk.mem.2 (Or.inr (Or.inr (Or.inl (Prt.mem.2 (Or.inr (Or.inl hx))))))
      · intro x hx
        rcases Bk.mem.1 hx with hx | hx | hx | hx
        · exact Or.inl (Bk.mem.2 (Or.inl hx))
        · exact Or.inl (Bk.mem.2 (Or.inr (Or.inl hx)))
        · rcases fk x hx with h1 | h1 | h1
          · exact Or.inl (Bk.mem.2 (Or.inr (Or.inr (Or.inl h1))))
          · exact Or.inr (Or.inl h1)
          · exact Or.inr (Or.inr (by omega))
        · exact Or.inl (Bk.mem.2 (Or.inr (Or.inr (Or.inr hx))))
end Go.Proofs.Ytjdkdakepomhdaa
