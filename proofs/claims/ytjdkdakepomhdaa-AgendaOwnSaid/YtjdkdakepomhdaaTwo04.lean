/- Layer 4's law: two agendas. -/
import Derived.Test.YtjdkdakepomhdaaPlay04c
import Derived.Laws.ResultCell
namespace Go.Proofs.Ytjdkdakepomhdaa
open Go.RowKit

def ptr (g : Nat) : Value := .pointer (some ⟨g, 0, none⟩)
/-- Two agendas apart. -/
structure Two (w : World) (g0 r0 g1 r1 : Nat) (S0 S1 : List Ent) (T0 T1 : Nat) (B0 B1 : List Nat) (k0 k1 : Option Ks) : Prop where
  a : Pr w g0 r0 S0 T0 B0 k0
  b : Pr w g1 r1 S1 T1 B1 k1
  apart : ∀ x ∈ B0, x ∉ B1
  rne : r0 ≠ r1
  kne : ∀ x ∈ sg k0, x ∉ sg k1

theorem Two.swap {w : World} {g0 r0 g1 r1 : Nat} {S0 S1 : List Ent} {T0 T1 : Nat} {B0 B1 : List Nat} {k0 k1 : Option Ks} (h : Two w g0 r0 g1 r1 S0 S1 T0 T1 B0 B1 k0 k1) : Two w g1 r1 g0 r0 S1 S0 T1 T0 B1 B0 k1 k0 :=
  ⟨h.b, h.a, fun x hx hm => h.apart x hm hx, fun e => h.rne e.symm, fun x hx hm => h.kne x hm hx⟩
theorem Two.fr {X : List Nat} {w w' : World} {g0 r0 g1 r1 : Nat} {S0 S1 : List Ent} {T0 T1 : Nat} {B0 B1 : List Nat} {k0 k1 : Option Ks} (h : Two w g0 r0 g1 r1 S0 S1 T0 T1 B0 B1 k0 k1) (hf : Fr X w w') (hx : ∀ x ∈ X, w.heap.size ≤ x) : Two w' g0 r0 g1 r1 S0 S1 T0 T1 B0 B1 k0 k1 := by
  have h0 : ∀ x, x < w.heap.size → x ∉ X := fun x hl hm => by have := hx x hm; omega
  exact ⟨h.a.fr hf (fun x hm => h0 x (h.a.ag.lt x hm)) (fun x hm => h0 x (h.a.ref.lt x hm)), h.b.fr hf (fun x hm => h0 x (h.b.ag.lt x hm)) (fun x hm => h0 x (h.b.ref.lt x hm)), h.apart, h.rne, h.kne⟩
theorem Two.not_in {w : World} {g0 r0 g1 r1 : Nat} {S0 S1 : List Ent} {T0 T1 : Nat} {B0 B1 : List Nat} {k0 k1 : Option Ks} (h : Two w g0 r0 g1 r1 S0 S1 T0 T1 B0 B1 k0 k1) : (∀ x ∈ B1, x ∉ r0 :: B0) ∧ (∀ x ∈ r1 :: sg k1, x ∉ r0 :: B0) := by
  refine ⟨fun x hx hm => ?_, fun x hx hm => ?_⟩
  · rcases List.mem_cons.1 hm with hm | hm
    · exact h.b.ag.ref h.a.ref r0 List.mem_cons_self (hm ▸ hx)
    · exact h.apart x hm hx
  · rcases List.mem_cons.1 hm with hm | hm
    · subst hm
      rcases List.mem_cons.1 hx with hx | hx
      · exact h.rne hx
      · cases k1 with
        | none => cases hx
        | some q =>
          have e1 : x = q.g := by simpa [sg] using hx
          have := (Ks.Lies.heap h.b.ref.es.ok)
          rw [← e1] at this
          have := h.a.ref.obj.symm.trans this
          simp at this
    · exact h.a.ag.ref h.b.ref x hx hm
/-- One is played. -/
theorem Two.play {w w' : World} {g0 r0 g1 r1 : Nat} {S0 S1 : List Ent} {T0 T1 : Nat} {B0 B1 : List Nat} {k0 k1 : Option Ks} (h : Two w g0 r0 g1 r1 S0 S1 T0 T1 B0 B1 k0 k1) (hp : Played w g0 r0 T0 B0 k0 w') :
    ∃ S' T' B' k', Two w' g0 r0 g1 r1 S' S1 T' T1 B' B1 k' k1 ∧ T' ≤ T0 + 1 ∧ (∀ x ∈ B', x ∈ B0 ∨ w.heap.size ≤ x) ∧ (∀ x ∈ sg k', x ∈ sg k0 ∨ w.heap.size ≤ x) := by
  obtain ⟨S', T', B', k', h1, h2, h3, h4⟩ := hp.ex
  obtain ⟨n1, n2⟩ := h.not_in
  refine ⟨S', T', B', k', ⟨h1, h.b.fr hp.fr n1 n2, fun x hx hm => ?_, h.rne, fun x hx hm => ?_⟩, h2, h3, h4⟩
  · rcases h3 x hx with h5 | h5
    · exact h.apart x h5 hm
    · have := h.b.ag.lt x hm; omega
  · rcases h4 x hx with h5 | h5
    · exact h.kne x h5 hm
    · have := h.b.ref.lt x (List.mem_cons_of_mem _ hm); omega

/-- The rounds of two(). -/
def TwoAt (w wr : World) : Nat → Prop
  | 0 => wr.heap[w.heap.size + 1]? = some (.cells #[.pointer none, .pointer none, .pointer none, .pointer none] 27 (0, 0))
  | 1 => ∃ g0 r0 B0, wr.heap[w.heap.size + 1]? = some (.cells #[ptr g0, ptr r0, .pointer none, .pointer none] 27 (0, 0)) ∧ Pr wr g0 r0 [] 0 B0 none ∧ (∀ x ∈ r0 :: B0, w.heap.size + 2 ≤ x)
  | _ => ∃ g0 r0 B0 g1 r1 B1, wr.heap[w.heap.size + 1]? = some (.cells #[ptr g0, ptr r0, ptr g1, ptr r1] 27 (0, 0)) ∧ Two wr g0 r0 g1 r1 [] [] 0 0 B0 B1 none none ∧ (∀ x ∈ r0 :: B0, w.heap.size + 2 ≤ x) ∧ (∀ x ∈ r1 :: B1, w.heap.size + 2 ≤ x)

theorem ref_new (w : World) : IsRef (w.alloc (.cells #[.slice none 0 0] 35)) w.heap.size none [] := ⟨heap_new _ _, IsEs.nil _⟩

set_option maxRecDepth 100000 in
set_option maxHeartbeats 2000000 in
theorem two_any (w : World) : Calls Try.prog 7 #[] w fun v w' => ∃ g0 r0 B0 g1 r1 B1, v = .returned (.tuple #[.agg #[ptr g0, ptr r0, ptr g1, ptr r1], .bool true]) ∧ Two w' g0 r0 g1 r1 [] [] 0 0 B0 B1 none none ∧ (∀ x ∈ r0 :: B0, w.heap.size ≤ x) ∧ (∀ x ∈ r1 :: B1, w.heap.size ≤ x) ∧ Fr [] w w' := by
  go_enter Try.func7, Try.ntmps7
  go_wp2_with fail
  go_loopg [3] 2 (fun left s3 wr => ∃ i : Nat, i ≤ 2 ∧ 2 - i = left ∧ s3 = .int .i64 i ∧ Hid (TwoAt w wr i) ∧ Hid (wr.heap[w.heap.size]? = some (.cells #[.pointer none, .pointer none, .pointer none, .pointer none] 27 (0, 0))) ∧ Hid (Fr [] w wr))
  case atStart =>
    refine ⟨0, by omega, rfl, rfl, Lib.hid ?_, Lib.hid ?_, Lib.hid (((Fr.refl _ _).alloc _).alloc _)⟩
    · have := heap_new (w.alloc (.cells #[.pointer none, .pointer none, .pointer none, .pointer none] 27)) (.cells #[.pointer none, .pointer none, .pointer none, .pointer none] 27)
      rw [World.size_alloc] at this
      exact this
    · rw [heap_old _ _ _ (by simp), heap_new]
  case round =>
    obtain ⟨i, hi, rfl, rfl, HT, HZ, HF⟩ := hrel
    obtain rfl | rfl | rfl : i = 0 ∨ i = 1 ∨ i = 2 := by omega
    · have ht := HT.out
      unfold TwoAt at ht
      have f0 := blk_free ht 0
      have f1 := blk_free ht 1
      have HA := Lib.hid ht
      clear ht
      go_wp2_with (go_at_call 11; refine (new_any _).mono ?_; rintro v w1 ⟨g0, B0, rfl, ha, hb, hf⟩; have hA2 := blk_alloc (hf.heap HA.out (by simp)) (.cells #[.slice none 0 0] 35); have e0 := blk_cell' hA2 (i := 0) rfl; have e1 := blk_cell' hA2 (i := 1) rfl; have e0' := blk_free hA2 0; have e1' := blk_free hA2 1; have hA3 := blk_set (blk_set hA2 0 (ptr g0)) 1 (ptr w1.heap.size); have z := blk_cell' hA3 (i := 0) (v := ptr g0) rfl; unfold ptr at z; have HA3 := Lib.hid hA3; have HAG := Lib.hid ha; have HB := Lib.hid hb; have HF1 := Lib.hid hf; clear hA2 hA3 ha hb hf)
      go_roundg 1
      case rel =>
        have FA : Fr [] w1 (w1.alloc (.cells #[.slice none 0 0] 35)) := (Fr.refl _ _).alloc _
        have FS : Fr [w.heap.size + 1] (w1.alloc (.cells #[.slice none 0 0] 35)) (((w1.alloc (.cells #[.slice none 0 0] 35)).setCell ⟨w.heap.size + 1, 0, none⟩ (ptr g0)).setCell ⟨w.heap.size + 1, 1, none⟩ (ptr w1.heap.size)) := ((Fr.refl _ _).set (by simp) _).set (by simp) _
        have hs0 := lt_of_heap HA.out
        have hs1 := HF1.out.size
        have hB0 : ∀ x ∈ B0, w.heap.size + 2 ≤ x := fun x hx => by have := HB.out x hx; omega
        refine ⟨1, by omega, rfl, rfl, Lib.hid ⟨g0, w1.heap.size, B0, HA3.out, ⟨(HAG.out.fr FA (by simp)).fr FS (fun x hx hm => ?_), (ref_new w1).fr FS (fun x hx hm => ?_)⟩, fun x hx => ?_⟩, Lib.hid ?_, Lib.hid ?_⟩
        · have := hB0 x hx; have : x = w.heap.size + 1 := by simpa using hm
          omega
        · have : x = w.heap.size + 1 := by simpa using hm
          have : x = w1.heap.size := by simpa [sg] using hx
          omega
        · rcases List.mem_cons.1 hx with hx | hx
          · omega
          · exact hB0 x hx
        · exact FS.heap (blk_alloc (HF1.out.heap HZ.out (by simp)) _) (by simp)
        · exact (((HF.out.trans HF1.out (by simp)).alloc _).set (p := ⟨w.heap.size + 1, 0, none⟩) (Or.inr (by show w.heap.size ≤ w.heap.size + 1; omega)) _).set (p := ⟨w.heap.size + 1, 1, none⟩) (Or.inr (by show w.heap.size ≤ w.heap.size + 1; omega)) _
      case measure => omega
    · have ht := HT.out
      unfold TwoAt at ht
      obtain ⟨g0, r0, B0, ht, hp0, hn0⟩ := ht
      have HA := Lib.hid ht
      have HP0 := Lib.hid hp0
      have HN0 := Lib.hid hn0
      clear ht hp0 hn0
      go_wp2_with (go_at_call 11; refine (new_any _).mono ?_; rintro v w1 ⟨g1, B1, rfl, ha, hb, hf⟩; have hA2 := blk_alloc (hf.heap HA.out (by simp)) (.cells #[.slice none 0 0] 35); have e0 := blk_cell' hA2 (i := 2) rfl; have e1 := blk_cell' hA2 (i := 3) rfl; have e0' := blk_free hA2 2; have e1' := blk_free hA2 3; have hA3 := blk_set (blk_set hA2 2 (ptr g1)) 3 (ptr w1.heap.size); have z := blk_cell' hA3 (i := 2) (v := ptr g1) rfl; unfold ptr at z; have HA3 := Lib.hid hA3; have HAG := Lib.hid ha; have HB := Lib.hid hb; have HF1 := Lib.hid hf; clear hA2 hA3 ha hb hf)
      go_roundg 0
      case rel =>
        have FA : Fr [] w1 (w1.alloc (.cells #[.slice none 0 0] 35)) := (Fr.refl _ _).alloc _
        have FS : Fr [w.heap.size + 1] (w1.alloc (.cells #[.slice none 0 0] 35)) (((w1.alloc (.cells #[.slice none 0 0] 35)).setCell ⟨w.heap.size + 1, 2, none⟩ (ptr g1)).setCell ⟨w.heap.size + 1, 3, none⟩ (ptr w1.heap.size)) := ((Fr.refl _ _).set (by simp) _).set (by simp) _
        have hs0 := lt_of_heap HA.out
        have hs1 := HF1.out.size
        have hB1 : ∀ x ∈ B1, w.heap.size + 2 ≤ x := fun x hx => by have := HB.out x hx; omega
        refine ⟨2, by omega, rfl, rfl, Lib.hid ⟨g0, r0, B0, g1, w1.heap.size, B1, HA3.out, ⟨((HP0.out.fr HF1.out (by simp) (by simp)).fr FA (by simp) (by simp)).fr FS (fun x hx hm => ?_) (fun x hx hm => ?_), ⟨(HAG.out.fr FA (by simp)).fr FS (fun x hx hm => ?_), (ref_new w1).fr FS (fun x hx hm => ?_)⟩, fun x hx hm => ?_, ?_, by simp [sg]⟩, HN0.out, fun x hx => ?_⟩, Lib.hid ?_, Lib.hid ?_⟩
        · have := HN0.out x (List.mem_cons_of_mem _ hx); have : x = w.heap.size + 1 := by simpa using hm
          omega
        · have : x = r0 := by simpa [sg] using hx
          have := HN0.out r0 List.mem_cons_self; have : x = w.heap.size + 1 := by simpa using hm
          omega
        · have := hB1 x hx; have : x = w.heap.size + 1 := by simpa using hm
          omega
        · have : x = w.heap.size + 1 := by simpa using hm
          have : x = w1.heap.size := by simpa [sg] using hx
          omega
        · have := HB.out x hm; have := HP0.out.ag.lt x hx; omega
        · have := HP0.out.ref.lt r0 List.mem_cons_self; omega
        · rcases List.mem_cons.1 hx with hx | hx
          · omega
          · exact hB1 x hx
        · exact FS.heap (blk_alloc (HF1.out.heap HZ.out (by simp)) _) (by simp)
        · exact (((HF.out.trans HF1.out (by simp)).alloc _).set (p := ⟨w.heap.size + 1, 2, none⟩) (Or.inr (by show w.heap.size ≤ w.heap.size + 1; omega)) _).set (p := ⟨w.heap.size + 1, 3, none⟩) (Or.inr (by show w.heap.size ≤ w.heap.size + 1; omega)) _
      case measure => omega
    · have ht := HT.out
      unfold TwoAt at ht
      obtain ⟨g0, r0, B0, g1, r1, B1, ht, hp, hn0, hn1⟩ := ht
      have c0 := blk_cell' ht (i := 0) rfl
      have c1 := blk_cell' ht (i := 1) rfl
      have c2 := blk_cell' ht (i := 2) rfl
      have c3 := blk_cell' ht (i := 3) rfl
      unfold ptr at c0 c1 c2 c3
      have HA := Lib.hid ht
      have HP := Lib.hid hp
      have HN0 := Lib.hid hn0
      have HN1 := Lib.hid hn1
      clear ht hp hn0 hn1
      go_wp2_with fail
      go_region_held3 (fun w' => w'.cell? ⟨w.heap.size + 1, 0, none⟩ = some (.pointer (some ⟨g0, 0, none⟩)) ∧ w'.cell? ⟨w.heap.size + 1, 1, none⟩ = some (.pointer (some ⟨r0, 0, none⟩)) ∧ w'.cell? ⟨w.heap.size + 1, 2, none⟩ = some (.pointer (some ⟨g1, 0, none⟩)) ∧ w'.cell? ⟨w.heap.size + 1, 3, none⟩ = some (.pointer (some ⟨r1, 0, none⟩))) (first | exact ⟨c0, c1, c2, c3⟩ | exact ⟨d0, d1, d2, d3⟩ | go_keep) (first | (go_at_call 12; refine (wakes_any _).mono ?_; rintro v w2 ⟨rfl, hf2⟩; have d0 := hf2.cell c0 (by simp); have d1 := hf2.cell c1 (by simp); have d2 := hf2.cell c2 (by simp); have d3 := hf2.cell c3 (by simp); have HF2 := Lib.hid hf2; have hz := hf2.heap HZ.out (by simp); have z0 := blk_cell' hz (i := 0) rfl; have z1 := blk_cell' hz (i := 1) rfl; have z2 := blk_cell' hz (i := 2) rfl; have z3 := blk_cell' hz (i := 3) rfl; have y0 := blk_free hz 0; have y1 := blk_free hz 1; have y2 := blk_free hz 2; have y3 := blk_free hz 3; have HZ2 := Lib.hid hz; clear hf2 hz))
      have hz4 := blk_set (blk_set (blk_set (blk_set HZ2.out 0 (ptr g0)) 1 (ptr r0)) 2 (ptr g1)) 3 (ptr r1)
      have q0 := blk_cell' hz4 (i := 0) (v := ptr g0) rfl
      have q1 := blk_cell' hz4 (i := 1) (v := ptr r0) rfl
      have q2 := blk_cell' hz4 (i := 2) (v := ptr g1) rfl
      have q3 := blk_cell' hz4 (i := 3) (v := ptr r1) rfl
      have FZ : Fr [w.heap.size] w2 ((((w2.setCell ⟨w.heap.size, 0, none⟩ (ptr g0)).setCell ⟨w.heap.size, 1, none⟩ (ptr r0)).setCell ⟨w.heap.size, 2, none⟩ (ptr g1)).setCell ⟨w.heap.size, 3, none⟩ (ptr r1)) := ((((Fr.refl _ _).set (by simp) _).set (by simp) _).set (by simp) _).set (by simp) _
      have HZF := Lib.hid FZ
      unfold ptr at q0 q1 q2 q3
      clear hz4 FZ
      go_wp2_with fail
      refine bodyPost_ret (v := .tuple #[.agg #[ptr g0, ptr r0, ptr g1, ptr r1], .bool true]) ?_ rfl ?_
      · rw [results_cell_tmp rfl]
        simp [q0, q1, q2, q3, go_sem, ptr]
      · have h2 := (HP.out.fr ((Fr.refl [] wr).drew) (by simp)).fr HF2.out (by simp)
        refine ⟨g0, r0, B0, g1, r1, B1, rfl, ?_, fun x hx => by have := HN0.out x hx; omega, fun x hx => by have := HN1.out x hx; omega, ?_⟩
        · have hne : ∀ x, w.heap.size + 2 ≤ x → x ∉ [w.heap.size] := fun x hx hm => by have : x = w.heap.size := by simpa using hm
                                                                                       omega
          exact ⟨h2.a.fr HZF.out (fun x hx => hne x (HN0.out x (List.mem_cons_of_mem _ hx))) (fun x hx => by
              obtain rfl : x = r0 := by simpa [sg] using hx
              exact hne _ (HN0.out _ List.mem_cons_self)), h2.b.fr HZF.out (fun x hx => hne x (HN1.out x (List.mem_cons_of_mem _ hx))) (fun x hx => by
              obtain rfl : x = r1 := by simpa [sg] using hx
              exact hne _ (HN1.out _ List.mem_cons_self)), h2.apart, h2.rne, h2.kne⟩
        · exact (HF.out.drew.trans HF2.out (by simp)).trans HZF.out (fun x hx => Or.inr (by have : x = w.heap.size := by simpa using hx
                                                                                            omega))
end Go.Proofs.Ytjdkdakepomhdaa
