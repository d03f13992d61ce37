/- Layer 4's law: the calls, one by one. -/
import Derived.Test.YtjdkdakepomhdaaPlay04
import Derived.Deep.RegionHeld3
namespace Go.Proofs.Ytjdkdakepomhdaa
open Go.RowKit

/-- What is asked. -/
structure OpA where
  on : Int
  act : Int
  id : Int
  n : Int
def OpA.val (o : OpA) : Value := .agg #[.int .i64 o.on, .int .i64 o.act, .int .i64 o.id, .int .i64 o.n]
def sideV (g r : Nat) : Value := .agg #[.pointer (some ⟨g, 0, none⟩), .pointer (some ⟨r, 0, none⟩)]
def boxW (w : World) (g r : Nat) (o : OpA) : World := (w.alloc (.cells #[.pointer (some ⟨g, 0, none⟩), .pointer (some ⟨r, 0, none⟩)] 26)).alloc (.cells #[.int .i64 o.on, .int .i64 o.act, .int .i64 o.id, .int .i64 o.n] 31)
theorem boxW_fr (w : World) (g r : Nat) (o : OpA) : Fr [] w (boxW w g r o) := ((Fr.refl _ _).alloc _).alloc _
/-- The boxes of a call. -/
structure Bx (w0 : World) (g r : Nat) (o : OpA) (w : World) : Prop where
  s : w.heap[w0.heap.size]? = some (.cells #[.pointer (some ⟨g, 0, none⟩), .pointer (some ⟨r, 0, none⟩)] 26 (0, 0))
  o : w.heap[w0.heap.size + 1]? = some (.cells #[.int .i64 o.on, .int .i64 o.act, .int .i64 o.id, .int .i64 o.n] 31 (0, 0))
theorem Bx.mk' (w : World) (g r : Nat) (o : OpA) : Bx w g r o (boxW w g r o) := by
  refine ⟨?_, ?_⟩
  · unfold boxW; rw [heap_old _ _ _ (by simp), heap_new]
  · have := heap_new (w.alloc (.cells #[.pointer (some ⟨g, 0, none⟩), .pointer (some ⟨r, 0, none⟩)] 26)) (.cells #[.int .i64 o.on, .int .i64 o.act, .int .i64 o.id, .int .i64 o.n] 31)
    rw [World.size_alloc] at this; exact this
theorem Bx.fr {X : List Nat} {w0 w w' : World} {g r : Nat} {o : OpA} (h : Bx w0 g r o w) (hf : Fr X w w') (hx : ∀ x ∈ X, x < w0.heap.size ∨ w0.heap.size + 2 ≤ x) : Bx w0 g r o w' :=
  ⟨hf.heap h.s (fun hm => by rcases hx _ hm with h | h <;> omega), hf.heap h.o (fun hm => by rcases hx _ hm with h | h <;> omega)⟩
theorem Bx.c {w0 w : World} {g r : Nat} {o : OpA} (h : Bx w0 g r o w) : w.cell? ⟨w0.heap.size, 0, none⟩ = some (.pointer (some ⟨g, 0, none⟩)) ∧ w.cell? ⟨w0.heap.size, 1, none⟩ = some (.pointer (some ⟨r, 0, none⟩)) ∧
    w.cell? ⟨w0.heap.size + 1, 1, none⟩ = some (.int .i64 o.act) ∧ w.cell? ⟨w0.heap.size + 1, 2, none⟩ = some (.int .i64 o.id) ∧ w.cell? ⟨w0.heap.size + 1, 3, none⟩ = some (.int .i64 o.n) :=
  ⟨blk_cell' h.s rfl, blk_cell' h.s rfl, blk_cell' h.o rfl, blk_cell' h.o rfl, blk_cell' h.o rfl⟩
theorem Pr.below {w : World} {g r : Nat} {S : List Ent} {T : Nat} {B : List Nat} {k : Option Ks} (h : Pr w g r S T B k) : ∀ x ∈ r :: B, x < w.heap.size := fun x hx => by
  rcases List.mem_cons.1 hx with rfl | hx
  · exact h.ref.lt _ List.mem_cons_self
  · exact h.ag.lt x hx

theorem DueSt.sl {w wr w3 : World} {g r : Nat} {S Q : List Ent} {T : Nat} {B : List Nat} {j : Nat} {lk : Option Kp} {B' : List Nat} (h : DueSt w g S Q T B j wr lk B') (hf : Fr [r] wr w3) (hr : r < w.heap.size) : Sl w3 (kval lk) ((Q.take j).map idV) := by
  have := (h.ok.fr hf (fun x hx hm => by
    obtain rfl : x = r := by simpa using hm
    have := h.new x hx
    omega)).sl
  rw [h.l] at this
  exact this
theorem Played.later {w w1 w' : World} {g r : Nat} {T : Nat} {B : List Nat} {k : Option Ks} (h : Played w g r T B k w1) (hf : Fr [] w1 w') : Played w g r T B k w' := by
  obtain ⟨S', T', B', k', h1, h2, h3, h4⟩ := h.ex
  exact ⟨⟨S', T', B', k', h1.fr hf (by simp) (by simp), h2, h3, h4⟩, h.fr.trans hf (by simp)⟩

set_option maxRecDepth 100000 in
set_option maxHeartbeats 2000000 in
theorem plays_set {w : World} {g r : Nat} {S : List Ent} {T : Nat} {B : List Nat} {k : Option Ks} (h : Pr w g r S T B k) (hT : T < 900) (on id n : Int) (ho : (Lit.int .i64 id).wf = true) :
    Calls Try.prog 8 #[sideV g r, OpA.val ⟨on, 1, id, n⟩] w fun v w' => v = .returned (.bool true) ∧ Played w g r T B k w' := by
  have hf := boxW_fr w g r ⟨on, 1, id, n⟩
  have h1 := h.fr hf (by simp) (by simp)
  have hb := Bx.mk' w g r ⟨on, 1, id, n⟩
  obtain ⟨b0, b1, b2, b3, b4⟩ := hb.c
  have hSz : S.length < 4000 := by have := h.ag.size; omega
  have HS := Lib.hid (set_any h1.ag hT ho n)
  have H1 := Lib.hid h1
  have HB := Lib.hid hb
  have HF := Lib.hid hf
  have HBL := Lib.hid h.below
  clear h h1 hb hf
  unfold boxW at *
  unfold sideV OpA.val
  dsimp only at *
  go_enter Try.func8, Try.ntmps8
  go_wp2_with (first | (go_at_call 13; refine HS.out.mono ?_; rintro v w2 ⟨rfl, B2, b, ha2, hb2, hf2⟩; have hx := HB.out.fr hf2 (fun x hx => Or.inl (HBL.out x (List.mem_cons_of_mem _ hx))); obtain ⟨c0, c1, c2, c3, c4⟩ := hx.c; have hr2 := H1.out.ref.fr hf2 (fun x hx => H1.out.ag.ref H1.out.ref x hx); have HR := Lib.hid (rset_any hr2 (by omega) H1.out.ag.ids ⟨b, id, n, T + 1⟩); have HA2 := Lib.hid ha2; have HB2 := Lib.hid hb2; have HF2 := Lib.hid hf2; clear ha2 hb2 hf2 hx hr2) | (go_at_call 24; refine HR.out.mono ?_; rintro v w3 ⟨rfl, k3, hr3, hn3, hf3⟩; have HP := Lib.hid (Played.after HF.out (Played.both H1.out HA2.out (Nat.le_refl _) HB2.out HF2.out hr3 (fun x hx => Or.inr (hn3 x hx)) hf3)); clear hr3 hn3 hf3))
  go_ret
  exact ⟨rfl, HP.out⟩

set_option maxRecDepth 100000 in
set_option maxHeartbeats 2000000 in
theorem plays_drop {w : World} {g r : Nat} {S : List Ent} {T : Nat} {B : List Nat} {k : Option Ks} (h : Pr w g r S T B k) (hT : T < 900) (on id n : Int) (ho : (Lit.int .i64 id).wf = true) :
    Calls Try.prog 8 #[sideV g r, OpA.val ⟨on, 2, id, n⟩] w fun v w' => v = .returned (.bool true) ∧ PlayedTo w g r B k w' (S.filter (notId id)) T := by
  have hf := boxW_fr w g r ⟨on, 2, id, n⟩
  have h1 := h.fr hf (by simp) (by simp)
  have hb := Bx.mk' w g r ⟨on, 2, id, n⟩
  obtain ⟨b0, b1, b2, b3, b4⟩ := hb.c
  have hSz : S.length < 4000 := by have := h.ag.size; omega
  have H1 := Lib.hid h1
  have HB := Lib.hid hb
  have HF := Lib.hid hf
  have HBL := Lib.hid h.below
  clear h h1 hb hf
  unfold boxW at *
  unfold sideV OpA.val
  dsimp only at *
  go_enter Try.func8, Try.ntmps8
  go_wp2_with fail
  go_region_held3 (fun w' => w'.cell? ⟨w.heap.size, 0, none⟩ = some (.pointer (some ⟨g, 0, none⟩)) ∧ w'.cell? ⟨w.heap.size, 1, none⟩ = some (.pointer (some ⟨r, 0, none⟩)) ∧ w'.cell? ⟨w.heap.size + 1, 2, none⟩ = some (.int .i64 id) ∧ w'.cell? ⟨w.heap.size + 1, 3, none⟩ = some (.int .i64 n)) (first | exact ⟨b0, b1, b3, b4⟩ | exact ⟨c0, c1, c3, c4⟩ | exact ⟨d0, d1, d3, d4⟩) (first
    | (go_at_call 25; refine (drop_any (H1.out.fr ((Fr.refl [] _).drew) (by simp) (by simp)).ag ho).mono ?_; rintro v w2 ⟨rfl, B2, ha2, hb2, hf2⟩; have hx := (HB.out.fr ((Fr.refl [] _).drew) (by simp)).fr hf2 (fun x hx => Or.inl (HBL.out x (List.mem_cons_of_mem _ hx))); obtain ⟨c0, c1, c2, c3, c4⟩ := hx.c; have HX := Lib.hid hx; have HA2 := Lib.hid ha2; have HB2 := Lib.hid hb2; have HF2 := Lib.hid hf2; clear ha2 hb2 hf2 hx)
    | (go_at_call 26; refine (rdrop_any ((H1.out.fr ((Fr.refl [] _).drew) (by simp) (by simp)).ref.fr HF2.out (fun x hx => H1.out.ag.ref H1.out.ref x hx)) (by omega) H1.out.ag.ids id).mono ?_; rintro v w3 ⟨rfl, k3, hr3, hn3, hf3⟩; have hx := HX.out.fr hf3 (fun x hx => Or.inl (HBL.out x (by obtain rfl : x = r := (by simpa using hx); exact List.mem_cons_self))); obtain ⟨d0, d1, d2, d3, d4⟩ := hx.c; have HP := Lib.hid (PlayedTo.after HF.out.drew (PlayedTo.both (H1.out.fr ((Fr.refl [] _).drew) (by simp) (by simp)) HA2.out HB2.out HF2.out hr3 (fun x hx => Or.inr (hn3 x hx)) hf3)); clear hr3 hn3 hf3 hx))
  go_wp2_with fail
  go_ret
  exact ⟨rfl, HP.out⟩

set_option maxRecDepth 100000 in
set_option maxHeartbeats 2000000 in
theorem plays_at {w : World} {g r : Nat} {S : List Ent} {T : Nat} {B : List Nat} {k : Option Ks} (h : Pr w g r S T B k) (hT : T < 900) (on id n : Int) (ho : (Lit.int .i64 id).wf = true) :
    Calls Try.prog 8 #[sideV g r, OpA.val ⟨on, 3, id, n⟩] w fun v w' => v = .returned (.bool true) ∧ Played w g r T B k w' := by
  have hf := boxW_fr w g r ⟨on, 3, id, n⟩
  have h1 := h.fr hf (by simp) (by simp)
  have hb := Bx.mk' w g r ⟨on, 3, id, n⟩
  obtain ⟨b0, b1, b2, b3, b4⟩ := hb.c
  have hSz : S.length < 4000 := by have := h.ag.size; omega
  have hbb : (atOf S id == atOf S id) = true := by simp
  have HA := Lib.hid (at_any h1.ag ho)
  have HR := Lib.hid (rat_any h1.ref (by omega) h1.ag.ids id)
  have H := Lib.hid h
  have H1 := Lib.hid h1
  have HB := Lib.hid hb
  have HF := Lib.hid hf
  have HBL := Lib.hid h.below
  clear h h1 hb hf
  unfold boxW at *
  unfold sideV OpA.val
  dsimp only at *
  go_enter Try.func8, Try.ntmps8
  go_wp2_with (first | (go_at_call 16; refine HA.out.mono ?_; rintro v w2 ⟨rfl, rfl⟩) | (go_at_call 27; refine HR.out.mono ?_; rintro v w3 ⟨rfl, rfl⟩))
  go_ret
  exact ⟨by simp, Played.same H.out HF.out⟩


set_option maxRecDepth 100000 in
set_option maxHeartbeats 2000000 in
theorem plays_len {w : World} {g r : Nat} {S : List Ent} {T : Nat} {B : List Nat} {k : Option Ks} (h : Pr w g r S T B k) (hT : T < 900) (on id n : Int) :
    Calls Try.prog 8 #[sideV g r, OpA.val ⟨on, 4, id, n⟩] w fun v w' => v = .returned (.bool true) ∧ Played w g r T B k w' := by
  have hf := boxW_fr w g r ⟨on, 4, id, n⟩
  have h1 := h.fr hf (by simp) (by simp)
  have hb := Bx.mk' w g r ⟨on, 4, id, n⟩
  obtain ⟨b0, b1, b2, b3, b4⟩ := hb.c
  have hSz : S.length < 4000 := by have := h.ag.size; omega
  obtain ⟨p, c, hv, hc, -⟩ := h1.ref.es.open
  have c0 := h1.ref.cell
  rw [hv] at c0
  have hbb : ((S.length : Int) == S.length) = true := by simp
  have H := Lib.hid h
  have H1 := Lib.hid h1
  have HB := Lib.hid hb
  have HF := Lib.hid hf
  have HBL := Lib.hid h.below
  clear h h1 hb hf
  unfold boxW at *
  unfold sideV OpA.val
  dsimp only at *
  go_enter Try.func8, Try.ntmps8
  go_wp2_with fail
  go_quiet ((go_at_call 15; exact quiet_call (len_any (H1.out.ag.fr ((Fr.refl [] _).drewN _) (by simp)))))
  go_wp2_with fail
  go_ret
  exact ⟨rfl, Played.same H.out (HF.out.drewN _)⟩


set_option maxRecDepth 100000 in
set_option maxHeartbeats 2000000 in
theorem plays_due {w : World} {g r : Nat} {S : List Ent} {T : Nat} {B : List Nat} {k : Option Ks} (h : Pr w g r S T B k) (hT : T < 900) (on id n : Int) :
    Calls Try.prog 8 #[sideV g r, OpA.val ⟨on, 6, id, n⟩] w fun v w' => v = .returned (.bool true) ∧ Played w g r T B k w' := by
  have hf := boxW_fr w g r ⟨on, 6, id, n⟩
  have h1 := h.fr hf (by simp) (by simp)
  have hb := Bx.mk' w g r ⟨on, 6, id, n⟩
  obtain ⟨b0, b1, b2, b3, b4⟩ := hb.c
  have hSz : S.length < 4000 := by have := h.ag.size; omega
  obtain ⟨Q, hQ⟩ := ord_ex S h.ag.turns
  have HQ := Lib.hid hQ
  clear hQ
  have H := Lib.hid h
  have H1 := Lib.hid h1
  have HB := Lib.hid hb
  have HF := Lib.hid hf
  have HBL := Lib.hid h.below
  clear h h1 hb hf
  unfold boxW at *
  unfold sideV OpA.val
  dsimp only at *
  go_enter Try.func8, Try.ntmps8
  go_wp2_with fail
  go_region_held3 (fun w' => w'.cell? ⟨w.heap.size, 0, none⟩ = some (.pointer (some ⟨g, 0, none⟩)) ∧ w'.cell? ⟨w.heap.size, 1, none⟩ = some (.pointer (some ⟨r, 0, none⟩)) ∧ w'.cell? ⟨w.heap.size + 1, 2, none⟩ = some (.int .i64 id) ∧ w'.cell? ⟨w.heap.size + 1, 3, none⟩ = some (.int .i64 n)) (first | exact ⟨b0, b1, b3, b4⟩ | exact ⟨c0, c1, c3, c4⟩ | exact ⟨d0, d1, d3, d4⟩ | exact ⟨d0, d1, d3, d4⟩) (first
    | (go_at_call 14; refine (due_any (H1.out.fr ((Fr.refl [] _).drew) (by simp) (by simp)).ag (by omega) HQ.out n id).mono ?_; rintro v w2 ⟨lk, B2, rfl, hd⟩; have hx := (HB.out.fr ((Fr.refl [] _).drew) (by simp)).fr hd.fr (fun x hx => Or.inl (HBL.out x (List.mem_cons_of_mem _ hx))); obtain ⟨c0, c1, c2, c3, c4⟩ := hx.c; obtain ⟨lp, ln, lc, hlk⟩ := kval_open lk; rw [hlk]; have HLK := Lib.hid hlk; have HX := Lib.hid hx; have HD := Lib.hid hd; clear hd hx hlk)
    | (go_at_call 19; refine (rdue_any ((H1.out.fr ((Fr.refl [] _).drew) (by simp) (by simp)).ref.fr HD.out.fr (fun x hx => H1.out.ag.ref H1.out.ref x hx)) (by omega) H1.out.ag.ids H1.out.ag.turns HQ.out n id).mono ?_; rintro v w3 ⟨lk2, qk, k3, rfl, hd2⟩; have hx := HX.out.fr hd2.fr (fun x hx => Or.inl (HBL.out x (by obtain rfl : x = r := (by simpa using hx); exact List.mem_cons_self))); obtain ⟨d0, d1, d2, d3, d4⟩ := hx.c; obtain ⟨mp, mn, mc, hmk⟩ := kval_open lk2; rw [hmk]; have HMK := Lib.hid hmk; have HD2 := Lib.hid hd2; have hsa := HD.out.sl hd2.fr (Nat.lt_of_lt_of_le (HBL.out r List.mem_cons_self) HF.out.size); rw [HLK.out] at hsa; have hsb := hd2.ok.sl; rw [HMK.out, hd2.l] at hsb; have HSA := Lib.hid hsa; have HSB := Lib.hid hsb; clear hd2 hx hmk hsa hsb)
    | (go_at_call 18; refine (intsEq_ok (w := w3) HSA.out HSB.out (fun v hv => by obtain ⟨e, -, rfl⟩ := List.mem_map.1 hv; exact ⟨e.id, rfl⟩) (by rw [List.length_map, List.length_take]; have := HQ.out.perm.length_eq; omega)).mono ?_; rintro v w4 ⟨rfl, m, rfl⟩))
  go_wp2_with fail
  go_ret
  refine ⟨rfl, ?_⟩
  have hp := Played.both (H1.out.fr ((Fr.refl [] _).drew) (by simp) (by simp)) HD.out.ag (Nat.le_succ _) HD.out.sub HD.out.fr HD2.out.ref HD2.out.newk HD2.out.fr
  have hp2 := Played.after HF.out.drew hp
  exact hp2.later ((Fr.refl [] _).drewN m)
end Go.Proofs.Ytjdkdakepomhdaa
