/- Layer 4's law: the first entries; any call; two agendas. -/
import Derived.Test.YtjdkdakepomhdaaPlay04b
namespace Go.Proofs.Ytjdkdakepomhdaa
open Go.RowKit

set_option maxRecDepth 100000 in
set_option maxHeartbeats 2000000 in
/-- first() -/
theorem sfirst_any {w : World} {g r : Nat} {S : List Ent} {T : Nat} {B : List Nat} {k : Option Ks} (h : Pr w g r S T B k) (hT : T < 5000) :
    Calls Try.prog 10 #[sideV g r] w fun v w' => v = .returned (.bool true) ∧ Fr [] w w' := by
  have hf : Fr [] w (w.alloc (.cells #[.pointer (some ⟨g, 0, none⟩), .pointer (some ⟨r, 0, none⟩)] 26)) := (Fr.refl _ _).alloc _
  have h1 := h.fr hf (by simp) (by simp)
  have hSz : S.length < 100000 := by have := h.ag.size; omega
  have hb := heap_new w (.cells #[.pointer (some ⟨g, 0, none⟩), .pointer (some ⟨r, 0, none⟩)] 26)
  obtain ⟨Q, hQ⟩ := ord_ex S h.ag.turns
  have HA := Lib.hid (first_any h1.ag hQ)
  have HQ := Lib.hid hQ
  have H1 := Lib.hid h1
  have HF := Lib.hid hf
  have HB := Lib.hid hb
  have hll : ((S.length : Int) == S.length) = true := by simp
  clear h h1 hf hb hQ
  unfold sideV
  cases Q with
  | nil =>
    unfold firstV at HA
    go_enter Try.func10, Try.ntmps10
    go_wp2_with (first | (go_at_call 17; refine HA.out.mono ?_; rintro v w2 ⟨rfl, m, rfl⟩; have h2 := H1.out.fr ((Fr.refl [] _).drewN m) (by simp) (by simp); have HR := Lib.hid (rfirst_any h2.ref hSz h2.ag.turns HQ.out); have HB2 := Lib.hid (((Fr.refl [] _).drewN m).heap HB.out (by simp)); have H2 := Lib.hid h2; clear h2) | (go_at_call 9; refine HR.out.mono ?_; rintro v w3 ⟨rfl, hf3⟩; unfold firstV; have HB3 := Lib.hid (hf3.heap HB2.out (by simp)); have H3 := Lib.hid (H2.out.fr hf3 (by simp) (by simp)); have HF3 := Lib.hid ((HF.out.drewN m).trans hf3 (by simp)); have b0 : w3.cell? ⟨w.heap.size, 0, none⟩ = some (.pointer (some ⟨g, 0, none⟩)) := blk_cell' HB3.out rfl; have b1 : w3.cell? ⟨w.heap.size, 1, none⟩ = some (.pointer (some ⟨r, 0, none⟩)) := blk_cell' HB3.out rfl; obtain ⟨p, c, hv, hc, -⟩ := H3.out.ref.es.open; have c0 := H3.out.ref.cell; rw [hv] at c0; clear hf3 hv hc))
    go_quiet ((go_at_call 15; exact quiet_call (len_any (H3.out.ag.fr ((Fr.refl [] _).drewN _) (by simp)))))
    go_wp2_with fail
    go_ret
    exact ⟨rfl, HF3.out.drewN _⟩
  | cons e q =>
    unfold firstV at HA
    have he1 : (e.id == e.id) = true := by simp
    have he2 : (e.tm == e.tm) = true := by simp
    go_enter Try.func10, Try.ntmps10
    go_wp2_with (first | (go_at_call 17; refine HA.out.mono ?_; rintro v w2 ⟨rfl, m, rfl⟩; have h2 := H1.out.fr ((Fr.refl [] _).drewN m) (by simp) (by simp); have HR := Lib.hid (rfirst_any h2.ref hSz h2.ag.turns HQ.out); have HB2 := Lib.hid (((Fr.refl [] _).drewN m).heap HB.out (by simp)); have H2 := Lib.hid h2; clear h2) | (go_at_call 9; refine HR.out.mono ?_; rintro v w3 ⟨rfl, hf3⟩; unfold firstV; have HB3 := Lib.hid (hf3.heap HB2.out (by simp)); have H3 := Lib.hid (H2.out.fr hf3 (by simp) (by simp)); have HF3 := Lib.hid ((HF.out.drewN m).trans hf3 (by simp)); have b0 : w3.cell? ⟨w.heap.size, 0, none⟩ = some (.pointer (some ⟨g, 0, none⟩)) := blk_cell' HB3.out rfl; have b1 : w3.cell? ⟨w.heap.size, 1, none⟩ = some (.pointer (some ⟨r, 0, none⟩)) := blk_cell' HB3.out rfl; obtain ⟨p, c, hv, hc, -⟩ := H3.out.ref.es.open; have c0 := H3.out.ref.cell; rw [hv] at c0; clear hf3 hv hc))
    go_quiet ((go_at_call 15; exact quiet_call (len_any (H3.out.ag.fr ((Fr.refl [] _).drewN _) (by simp)))))
    go_wp2_with fail
    go_ret
    exact ⟨rfl, HF3.out.drewN _⟩

set_option maxRecDepth 100000 in
set_option maxHeartbeats 2000000 in
theorem plays_first {w : World} {g r : Nat} {S : List Ent} {T : Nat} {B : List Nat} {k : Option Ks} (h : Pr w g r S T B k) (hT : T < 900) (on id n : Int) :
    Calls Try.prog 8 #[sideV g r, OpA.val ⟨on, 5, id, n⟩] w fun v w' => v = .returned (.bool true) ∧ Played w g r T B k w' := by
  have hf := boxW_fr w g r ⟨on, 5, id, n⟩
  have h1 := h.fr hf (by simp) (by simp)
  have hb := Bx.mk' w g r ⟨on, 5, id, n⟩
  obtain ⟨b0, b1, b2, b3, b4⟩ := hb.c
  have HFI := Lib.hid (sfirst_any h1 (by omega))
  have H := Lib.hid h
  have HF := Lib.hid hf
  clear h h1 hb hf
  unfold boxW at *
  unfold sideV OpA.val
  unfold sideV at HFI
  dsimp only at *
  go_enter Try.func8, Try.ntmps8
  go_wp2_with (go_at_call 10; refine HFI.out.mono ?_; rintro v w2 ⟨rfl, hf2⟩; have HF2 := Lib.hid (HF.out.trans hf2 (by simp)); clear hf2)
  go_ret
  exact ⟨rfl, Played.same H.out HF2.out⟩

set_option maxRecDepth 100000 in
set_option maxHeartbeats 2000000 in
theorem plays_other {w : World} {g r : Nat} {S : List Ent} {T : Nat} {B : List Nat} {k : Option Ks} (h : Pr w g r S T B k) (on act id n : Int) (e1 : act ≠ 1) (e2 : act ≠ 2) (e3 : act ≠ 3) (e4 : act ≠ 4) (e5 : act ≠ 5) (e6 : act ≠ 6) :
    Calls Try.prog 8 #[sideV g r, OpA.val ⟨on, act, id, n⟩] w fun v w' => v = .returned (.bool true) ∧ Played w g r T B k w' := by
  have hf := boxW_fr w g r ⟨on, act, id, n⟩
  have hb := Bx.mk' w g r ⟨on, act, id, n⟩
  obtain ⟨b0, b1, b2, b3, b4⟩ := hb.c
  have d1 : (act == 1) = false := by simpa using e1
  have d2 : (act == 2) = false := by simpa using e2
  have d3 : (act == 3) = false := by simpa using e3
  have d4 : (act == 4) = false := by simpa using e4
  have d5 : (act == 5) = false := by simpa using e5
  have d6 : (act == 6) = false := by simpa using e6
  have H := Lib.hid h
  have HF := Lib.hid hf
  clear h hb hf e1 e2 e3 e4 e5 e6
  unfold boxW at *
  unfold sideV OpA.val
  dsimp only at *
  go_enter Try.func8, Try.ntmps8
  go_wp2_with fail
  go_ret
  exact ⟨rfl, Played.same H.out HF.out⟩

theorem plays_any {w : World} {g r : Nat} {S : List Ent} {T : Nat} {B : List Nat} {k : Option Ks} (h : Pr w g r S T B k) (hT : T < 900) (o : OpA) (ho : (Lit.int .i64 o.id).wf = true) :
    Calls Try.prog 8 #[sideV g r, o.val] w fun v w' => v = .returned (.bool true) ∧ Played w g r T B k w' := by
  obtain ⟨on, act, id, n⟩ := o
  by_cases e1 : act = 1
  · subst e1; exact plays_set h hT on id n ho
  by_cases e2 : act = 2
  · subst e2; exact (plays_drop h hT on id n ho).mono fun v w' ⟨h1, h2⟩ => ⟨h1, h2.played (Nat.le_succ T)⟩
  by_cases e3 : act = 3
  · subst e3; exact plays_at h hT on id n ho
  by_cases e4 : act = 4
  · subst e4; exact plays_len h hT on id n
  by_cases e5 : act = 5
  · subst e5; exact plays_first h hT on id n
  by_cases e6 : act = 6
  · subst e6; exact plays_due h hT on id n
  exact plays_other h on act id n e1 e2 e3 e4 e5 e6
end Go.Proofs.Ytjdkdakepomhdaa
