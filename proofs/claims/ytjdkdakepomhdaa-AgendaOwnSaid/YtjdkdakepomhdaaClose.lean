/- A Book is closed: what was kept stands, and nobody's list is another one's. (A Book without texts.) -/
import Derived.Test.YtjdkdakepomhdaaBookB
import Derived.Test.YtjdkdakepomhdaaCloseU
import Derived.Test.YtjdkdakepomhdaaStands
import Derived.Test.YtjdkdakepomhdaaCloseI
namespace Go.Proofs.Ytjdkdakepomhdaa
open Go.RowKit

/-- What is seen of a row of lists. -/
theorem row_at {w : World} {T : TypeId} {r : Option Kp} {ks : List (Option Kp)} (h : kok w T r) (hl : kl r = ks.map kval) {i : Nat} {k : Option Kp} (hk : ks[i]? = some k) :
    ∃ b o c, kval r = .slice (some ⟨b, o, none⟩) ks.length c ∧ w.cell? ⟨b, o + i, none⟩ = some (kval k) := by
  obtain ⟨b, o, c, h1, h2⟩ := h.sl.at (i := i) (x := kval k) (by rw [hl, List.getElem?_map, hk]; rfl)
  rw [hl, List.length_map] at h1
  exact ⟨b, o, c, h1, h2⟩
theorem row_len {r : Option Kp} {ks : List (Option Kp)} (hl : kl r = ks.map kval) : ∃ p c, kval r = .slice p ks.length c := ⟨kad r, kcap r, by rw [kval_eq, hl, List.length_map]⟩
theorem IsPart.wlen {w : World} {E T : TypeId} {Good : Value → Prop} {p : Prt} (h : IsPart w E T Good p) : p.ws.length = p.ks.length := by
  have := congrArg List.length h.same
  rw [List.length_map, List.length_map] at this
  exact this.symm
theorem IsPart.pair {w : World} {E T : TypeId} {Good : Value → Prop} {p : Prt} (h : IsPart w E T Good p) {i : Nat} (hi : i < p.ks.length) : ∃ k k', p.ks[i]? = some k ∧ p.ws[i]? = some k' ∧ kl k' = kl k := by
  have hi' : i < p.ws.length := by rw [h.wlen]; exact hi
  refine ⟨p.ks[i], p.ws[i], by simp [hi], by simp [hi'], ?_⟩
  have := congrArg (fun l => l[i]?) h.same
  simp only [List.getElem?_map, List.getElem?_eq_getElem hi, List.getElem?_eq_getElem hi', Option.map_some, Option.some.injEq] at this
  exact this.symm
theorem goodU_map {l : List Value} (h : ∀ v ∈ l, GoodU v) : ∃ L : List UInt8, l = L.map u8v := by
  induction l with
  | nil => exact ⟨[], rfl⟩
  | cons a r ih =>
    obtain ⟨b, rfl⟩ := h a (by simp)
    obtain ⟨L, rfl⟩ := ih (fun v hv => h v (by simp [hv]))
    exact ⟨b :: L, rfl⟩

set_option maxRecDepth 100000 in
set_option maxHeartbeats 2000000 in
theorem stands_ok {w : World} {g : Nat} {B : Bk} (h : IsBook w g B) (ht : B.t = Prt.nil) :
    Calls Try.prog 31 #[.pointer (some ⟨g, 0, none⟩)] w fun e w' => e = .returned (.bool true) ∧ ∃ m, w' = w.drewN m := by
  have HB := Lib.hid h
  have HT := Lib.hid ht
  clear h ht
  go_enter Try.func31, Try.ntmps31
  go_wp2_with fail
  go_loopg [3] B.u.ks.length (fun left s3 wr => ∃ i m : Nat, i ≤ B.u.ks.length ∧ left = B.u.ks.length - i ∧ s3 = .int .i64 i ∧ wr = w.drewN m)
  case atStart => exact ⟨0, 0, Nat.zero_le _, rfl, rfl, rfl⟩
  case round =>
    obtain ⟨i, m, hi, rfl, rfl, rfl⟩ := hrel
    have c0 := HB.out.cellAt (j := 0) rfl
    have c1 := HB.out.cellAt (j := 1) rfl
    by_cases hi1 : i < B.u.ks.length
    · obtain ⟨k, k', hk, hk', hkl⟩ := HB.out.u.pair hi1
      obtain ⟨b1, o1, d1, e1, r1⟩ := row_at HB.out.u.row HB.out.u.rowl hk
      obtain ⟨b2, o2, d2, e2, r2⟩ := row_at HB.out.u.row' HB.out.u.rowl' hk'
      rw [HB.out.u.wlen] at e2
      rw [e1] at c0
      rw [e2] at c1
      obtain ⟨L, hL⟩ := goodU_map (HB.out.u.good i k hk)
      have q1 := fun n => conv_kval (w := w.drewN n) ((HB.out.u.kept i k hk).fr ((Fr.refl [] w).drewN n) (fun _ _ => List.not_mem_nil)) hL
      have q2 := fun n => conv_kval (w := w.drewN n) ((HB.out.u.want i k' hk').fr ((Fr.refl [] w).drewN n) (fun _ _ => List.not_mem_nil)) (hkl.trans hL)
      have HNU := Lib.hid HB.out.nu
      have HN1 := Lib.hid HB.out.n1
      have gd : decide ((i : Int) < (B.u.ks.length : Int)) = true := by simpa using hi1
      clear hk hk' hkl e1 e2 hL
      generalize (⟨L.toArray⟩ : ByteArray) = S at q1 q2
      go_wp2_with fail
      go_quiet (fail)
      go_wp2_with fail
      go_roundg (B.u.ks.length - (i + 1))
      case rel =>
        have := HNU.out
        have := HN1.out
        exact ⟨i + 1, m + nq, by omega, rfl, next_i64 i (by omega), rfl⟩
      case measure => omega
    · have gd : decide ((i : Int) < (B.u.ks.length : Int)) = false := by simp; omega
      obtain ⟨p0, d0, e0⟩ := row_len HB.out.u.rowl
      rw [e0] at c0
      clear c1 e0
      go_wp2_with fail
      go_loopg [4] B.i.ks.length (fun left s4 wr => ∃ i m : Nat, i ≤ B.i.ks.length ∧ left = B.i.ks.length - i ∧ s4 = .int .i64 i ∧ wr = w.drewN m)
      case atStart => exact ⟨0, m, Nat.zero_le _, rfl, rfl, rfl⟩
      case round =>
        clear c0 gd
        obtain ⟨i, m, hi, rfl, rfl, rfl⟩ := hrel
        have c0 := HB.out.cellAt (j := 4) rfl
        have c1 := HB.out.cellAt (j := 5) rfl
        by_cases hi1 : i < B.i.ks.length
        · obtain ⟨k, k', hk, hk', hkl⟩ := HB.out.i.pair hi1
          obtain ⟨b1, o1, d1, e1, r1⟩ := row_at HB.out.i.row HB.out.i.rowl hk
          obtain ⟨b2, o2, d2, e2, r2⟩ := row_at HB.out.i.row' HB.out.i.rowl' hk'
          rw [HB.out.i.wlen] at e2
          rw [e1] at c0
          rw [e2] at c1
          have HS1 := Lib.hid (HB.out.i.kept i k hk).sl
          have HS2 := Lib.hid (HB.out.i.want i k' hk').sl
          rw [hkl] at HS2
          have HGD := Lib.hid (HB.out.i.good i k hk)
          have HSM := Lib.hid (HB.out.i.small i k hk)
          have HNU := Lib.hid HB.out.ni
          have HN1 := Lib.hid HB.out.n1
          have gd : decide ((i : Int) < (B.i.ks.length : Int)) = true := by simpa using hi1
          clear hk hk' hkl e1 e2
          go_wp2_with fail
          go_quiet ((go_at_call 18; refine (intsEq_ok (HS1.out.drewN _) (HS2.out.drewN _) HGD.out (by have := HSM.out; omega)).mono ?_; rintro e w'' ⟨rfl, m2, rfl⟩; exact ⟨rfl, _, by rw [World.drewN_drewN, Nat.add_assoc]⟩))
          go_wp2_with fail
          go_roundg (B.i.ks.length - (i + 1))
          case rel =>
            have := HNU.out
            have := HN1.out
            exact ⟨i + 1, m + nq, by omega, rfl, next_i64 i (by omega), rfl⟩
          case measure => omega
        · have gd : decide ((i : Int) < (B.i.ks.length : Int)) = false := by simp; omega
          obtain ⟨p0, d0, e0⟩ := row_len HB.out.i.rowl
          rw [e0] at c0
          have c8 := HB.out.cellAt (j := 8) (v := .slice none 0 0) (by show some (kval B.t.r0) = _; rw [HT.out]; rfl)
          clear c1 e0
          go_wp2_with fail
          go_loopg [5] 0 (fun left s5 wr => s5 = .int .i64 0 ∧ wr = w.drewN m)
          case atStart => exact ⟨rfl, rfl⟩
          case round =>
            obtain ⟨rfl, rfl⟩ := hrel
            go_wp2_with fail
            go_ret
            exact ⟨rfl, _, rfl⟩

set_option maxRecDepth 100000 in
/-- There are no texts. -/
theorem lookT_nil {w : World} {g : Nat} : Calls Try.prog 47 #[.pointer (some ⟨g, 0, none⟩), .slice none 0 0] w fun e w' => e = .returned (.bool true) ∧ w = w' := by
  go_enter Try.func47, Try.ntmps47
  go_wp2_with fail
  go_loopg [5] 0 (fun left s5 wr => s5 = .int .i64 0 ∧ w = wr)
  case atStart => exact ⟨rfl, rfl⟩
  case round =>
    obtain ⟨rfl, rfl⟩ := hrel
    go_wp2_with fail
    go_ret
    exact ⟨rfl, rfl⟩
set_option maxRecDepth 100000 in
theorem closeT_nil {w : World} {g : Nat} (h8 : w.cell? ⟨g, 8, none⟩ = some (.slice none 0 0)) (h10 : w.cell? ⟨g, 10, none⟩ = some (.slice none 0 0)) (h11 : w.cell? ⟨g, 11, none⟩ = some (.slice none 0 0)) :
    Calls Try.prog 34 #[.pointer (some ⟨g, 0, none⟩)] w fun e w' => e = .returned (.bool true) ∧ w = w' := by
  go_enter Try.func34, Try.ntmps34
  go_wp2_with fail
  go_loopg [3] 0 (fun left s5 wr => s5 = .int .i64 0 ∧ w = wr)
  case atStart => exact ⟨rfl, rfl⟩
  case round =>
    obtain ⟨rfl, rfl⟩ := hrel
    go_wp2_with fail
    go_loopg [5] 0 (fun left s5 wr => s5 = .int .i64 0 ∧ w = wr)
    case atStart => exact ⟨rfl, rfl⟩
    case round =>
      obtain ⟨rfl, rfl⟩ := hrel
      go_wp2_with fail
      refine lookT_nil.mono ?_
      rintro e w' ⟨rfl, rfl⟩
      go_wp2_with fail
      go_loopg [8] 0 (fun left s5 wr => s5 = .int .i64 0 ∧ w = wr)
      case atStart => exact ⟨rfl, rfl⟩
      case round =>
        obtain ⟨rfl, rfl⟩ := hrel
        go_wp2_with fail
        refine lookT_nil.mono ?_
        rintro e w' ⟨rfl, rfl⟩
        go_wp2_with fail
        refine lookT_nil.mono ?_
        rintro e w' ⟨rfl, rfl⟩
        go_wp2_with fail
        go_ret
        exact ⟨rfl, rfl⟩

set_option maxRecDepth 100000 in
/-- The end of a Book without texts. -/
theorem close_ok {w : World} {g : Nat} {B : Bk} (h : IsBook w g B) (ht : B.t = Prt.nil) :
    Calls Try.prog 21 #[.pointer (some ⟨g, 0, none⟩)] w fun e w' => e = .returned (.bool true) ∧ Fr (B.blocks g) w w' := by
  have h8 : kval B.t.r0 = .slice none 0 0 := by rw [ht]; rfl
  have HB := Lib.hid h
  have HT := Lib.hid ht
  have H8 := Lib.hid h8
  clear h ht h8
  go_enter Try.func21, Try.ntmps21
  go_wp2_with fail
  refine (stands_ok HB.out HT.out).mono ?_
  rintro e w1 ⟨rfl, m, rfl⟩
  go_wp2_with fail
  have hb1 := HB.out.fr ((Fr.refl [] w).drewN m) (fun _ _ => List.not_mem_nil)
  have n1 := hb1.n1
  have nu := hb1.nu
  have ni := hb1.ni
  refine (closeU_ok hb1.blk rfl rfl rfl hb1.u.row hb1.u.rowl hb1.u.kept hb1.u.apart (by omega) hb1.u.small).mono ?_
  rintro e w2 ⟨rfl, ⟨v2, v3, hg2⟩, hf2⟩
  have hi2 : IsPart w2 3 40 GoodI B.i := hb1.i.fr hf2 (fun x hx hm => by
    rcases List.mem_cons.1 hm with rfl | hm
    · rcases hb1.i.blk x hx with h | h
      · exact h.ne ⟨_, hb1.blk⟩ (by decide) rfl
      · exact h.ne ⟨_, hb1.blk⟩ (by decide) rfl
    · rcases hb1.i.blk x hx with h | h
      · exact far (flat_blk hb1.u.kept) (by decide) h hm
      · exact far (flat_blk hb1.u.kept) (by decide) h hm)
  have HF2 := Lib.hid hf2
  clear hf2
  go_wp2_with fail
  refine (closeI_ok hg2 rfl rfl rfl hi2.row hi2.rowl hi2.kept hi2.apart (by omega) hi2.small).mono ?_
  rintro e w3 ⟨rfl, ⟨v6, v7, hg3⟩, hf3⟩
  have HF3 := Lib.hid hf3
  clear hf3
  have HG3 := Lib.hid hg3
  go_wp2_with fail
  refine (closeT_nil (blk_cell' HG3.out (by rw [← H8.out]; rfl)) (blk_cell' HG3.out rfl) (blk_cell' HG3.out rfl)).mono ?_
  rintro e w4 ⟨rfl, rfl⟩
  go_wp2_with fail
  go_ret
  refine ⟨rfl, Fr.trans (S := B.blocks g) (Fr.trans (S := B.blocks g) ((Fr.refl _ _).drewN _) HF2.out ?_) HF3.out ?_⟩
  · intro x hx
    left
    rcases List.mem_cons.1 hx with rfl | hx
    · exact Bk.mem.2 (Or.inl rfl)
    · exact Bk.mem.2 (Or.inr (Or.inl (Prt.mem.2 (Or.inr (Or.inr (Or.inl hx))))))
  · intro x hx
    left
    rcases List.mem_cons.1 hx with rfl | hx
    · exact Bk.mem.2 (Or.inl rfl)
    · exact Bk.mem.2 (Or.inr (Or.inr (Or.inl (Prt.mem.2 (Or.inr (Or.inr (Or.inl hx)))))))
end Go.Proofs.Ytjdkdakepomhdaa
