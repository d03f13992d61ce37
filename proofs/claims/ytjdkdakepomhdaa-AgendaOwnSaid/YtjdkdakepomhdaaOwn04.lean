/- AgendaOwn (layer 4): the walk. -/
import Derived.Test.YtjdkdakepomhdaaEx04
import Derived.Test.YtjdkdakepomhdaaBookI
import Derived.Test.YtjdkdakepomhdaaClose
namespace Go.Proofs.Ytjdkdakepomhdaa
open Go.RowKit

theorem IsBook.kinds {w : World} {g : Nat} {B : Bk} (h : IsBook w g B) : ∀ y ∈ B.blocks g, ∃ t cs, w.heap[y]? = some (.cells cs t (0, 0)) ∧ (t = 55 ∨ t = 5 ∨ t = 89 ∨ t = 3 ∨ t = 40 ∨ t = 9 ∨ t = 91) := by
  intro y hy
  rcases Bk.mem.1 hy with hy | hy | hy | hy
  · exact ⟨_, _, hy ▸ h.blk, Or.inl rfl⟩
  · rcases h.u.blk y hy with ⟨cs, hc⟩ | ⟨cs, hc⟩
    · exact ⟨_, cs, hc, Or.inr (Or.inl rfl)⟩
    · exact ⟨_, cs, hc, Or.inr (Or.inr (Or.inl rfl))⟩
  · rcases h.i.blk y hy with ⟨cs, hc⟩ | ⟨cs, hc⟩
    · exact ⟨_, cs, hc, Or.inr (Or.inr (Or.inr (Or.inl rfl)))⟩
    · exact ⟨_, cs, hc, Or.inr (Or.inr (Or.inr (Or.inr (Or.inl rfl))))⟩
  · rcases h.t.blk y hy with ⟨cs, hc⟩ | ⟨cs, hc⟩
    · exact ⟨_, cs, hc, Or.inr (Or.inr (Or.inr (Or.inr (Or.inr (Or.inl rfl)))))⟩
    · exact ⟨_, cs, hc, Or.inr (Or.inr (Or.inr (Or.inr (Or.inr (Or.inr rfl)))))⟩
theorem IsBook.not_ag {w : World} {g a : Nat} {B : Bk} {S : List Ent} {T : Nat} {A : List Nat} (h : IsBook w g B) (ha : IsAg w a S T A) : ∀ y ∈ B.blocks g, y ∉ A := by
  intro y hy
  obtain ⟨t, cs, hc, ht⟩ := h.kinds y hy
  rcases ht with rfl | rfl | rfl | rfl | rfl | rfl | rfl <;> exact ha.not_in hc (by decide) (by decide) (by decide)
theorem IsBook.not_cells {w : World} {g x : Nat} {B : Bk} {cs : Array Value} {t : TypeId} (h : IsBook w g B) (hx : w.heap[x]? = some (.cells cs t (0, 0))) (ht : t = 35 ∨ t = 63 ∨ t = 27) : x ∉ B.blocks g := by
  intro hy
  obtain ⟨u, ds, hc, hu⟩ := h.kinds x hy
  rw [hx] at hc
  simp only [Option.some.injEq, Obj.cells.injEq] at hc
  obtain ⟨-, h2, -⟩ := hc
  rw [h2] at ht
  rcases ht with e | e | e <;> rw [e] at hu <;> simp at hu
theorem IsBook.not_ref {w : World} {g r : Nat} {B : Bk} {S : List Ent} {k : Option Ks} (h : IsBook w g B) (hr : IsRef w r k S) : ∀ x ∈ r :: sg k, x ∉ B.blocks g := by
  intro x hx
  rcases List.mem_cons.1 hx with rfl | hx
  · exact h.not_cells hr.obj (Or.inl rfl)
  · cases k with
    | none => cases hx
    | some q =>
      obtain rfl : x = q.g := by simpa [sg] using hx
      exact h.not_cells (Ks.Lies.heap hr.es.ok) (Or.inr (Or.inl rfl))

/-- What AgendaOwn carries. -/
structure OwSt (w0 w : World) (lb bb g0 r0 g1 r1 : Nat) (T0 : Nat) : Prop where
  st : ∃ S0 S1 T1, ExSt w0 w lb g0 r0 g1 r1 S0 S1 T0 T1
  bk : ∃ B, IsBook w bb B ∧ B.t = Prt.nil ∧ (∀ x ∈ B.blocks bb, w0.heap.size ≤ x)
/-- The book stands while a pair is played. -/
theorem IsBook.played {w w' : World} {bb g r : Nat} {B : Bk} {S : List Ent} {T : Nat} {A : List Nat} {k : Option Ks} (h : IsBook w bb B) (hp : Pr w g r S T A k) (hf : Fr (r :: A) w w') : IsBook w' bb B :=
  h.fr hf (fun x hx hm => by
    rcases List.mem_cons.1 hm with hm | hm
    · exact h.not_ref hp.ref r List.mem_cons_self (hm ▸ hx)
    · exact h.not_ag hp.ag x hx hm)
theorem OwSt.play {w0 w : World} {lb bb g0 r0 g1 r1 T0 : Nat} (h : OwSt w0 w lb bb g0 r0 g1 r1 T0) (o : OpA) (ho : (Lit.int .i64 o.id).wf = true) (hT : T0 < 900) :
    Calls Try.prog 8 #[sideV g0 r0, o.val] w fun v w' => v = .returned (.bool true) ∧ ∃ T', T' ≤ T0 + 1 ∧ OwSt w0 w' lb bb g0 r0 g1 r1 T' := by
  obtain ⟨S0, S1, T1, hx⟩ := h.st
  obtain ⟨B0, B1, k0, k1, h1, h2, h3⟩ := hx.two
  obtain ⟨B, hb1, hb2, hb3⟩ := h.bk
  refine (plays_any h1.a hT o ho).mono ?_
  rintro v w' ⟨rfl, hp⟩
  obtain ⟨S', T', B', k', ht, hT', hb, hk⟩ := h1.play hp
  have hs := hx.bel.size
  refine ⟨rfl, T', hT', ⟨S', S1, T1, ⟨B', B1, k', k1, ht, fun x hx => ?_, h3⟩, hp.fr.heap hx.arr (arr_not h1.a hx.arr), hx.bel.trans (hp.fr.below hs h2)⟩, B, hb1.played h1.a hp.fr, hb2, hb3⟩
  rcases List.mem_cons.1 hx with hx | hx
  · exact h2 x (hx ▸ List.mem_cons_self)
  · rcases hb x hx with h4 | h4
    · exact h2 x (List.mem_cons_of_mem _ h4)
    · omega
/-- Due, of the program's. -/
structure OwMid (w0 w : World) (lb bb g0 r0 g1 r1 : Nat) (T0 : Nat) (now most : Int) (lk : Option Kp) (w2 : World) : Prop where
  ex : ∃ S0 S1 T1 B0 B1 k0 k1 Q B2, Two w g0 r0 g1 r1 S0 S1 T0 T1 B0 B1 k0 k1 ∧ (∀ x ∈ r0 :: B0, w0.heap.size ≤ x) ∧ (∀ x ∈ r1 :: B1, w0.heap.size ≤ x) ∧ Ord S0 Q ∧ DueSt w g0 S0 Q T0 B0 (dueL Q now most).length w2 lk B2
  arr : w2.heap[lb]? = some (.cells #[ptr g0, ptr r0, ptr g1, ptr r1] 27 (0, 0))
  bel : Below w0.heap.size w0 w2
  bel0 : w0.heap.size ≤ w.heap.size
  bk : ∃ B, IsBook w2 bb B ∧ B.t = Prt.nil ∧ (∀ x ∈ B.blocks bb, w0.heap.size ≤ x) ∧ (∀ x ∈ B.blocks bb, x < w.heap.size)
theorem OwSt.due {w0 w : World} {lb bb g0 r0 g1 r1 T0 : Nat} (h : OwSt w0 w lb bb g0 r0 g1 r1 T0) (hT : T0 < 900) (now most : Int) :
    Calls Try.prog 14 #[.pointer (some ⟨g0, 0, none⟩), .int .i64 now, .int .i64 most] w fun v w' => ∃ lk, v = .returned (kval lk) ∧ OwMid w0 w lb bb g0 r0 g1 r1 T0 now most lk w' := by
  obtain ⟨S0, S1, T1, hx⟩ := h.st
  obtain ⟨B0, B1, k0, k1, h1, h2, h3⟩ := hx.two
  obtain ⟨B, hb1, hb2, hb3⟩ := h.bk
  obtain ⟨Q, hQ⟩ := ord_ex S0 h1.a.ag.turns
  refine (due_any h1.a.ag (by omega) hQ now most).mono ?_
  rintro v w' ⟨lk, B2, rfl, hd⟩
  have hs := hx.bel.size
  refine ⟨lk, rfl, ⟨S0, S1, T1, B0, B1, k0, k1, Q, B2, h1, h2, h3, hQ, hd⟩, hd.fr.heap hx.arr (fun hm => arr_not h1.a hx.arr (List.mem_cons_of_mem _ hm)), hx.bel.trans (hd.fr.below hs (fun x hx => h2 x (List.mem_cons_of_mem _ hx))), hs, B, ?_, hb2, hb3, fun x hx => hb1.lt x hx⟩
  exact hb1.played h1.a (hd.fr.mono (fun x hx => Or.inl (List.mem_cons_of_mem _ hx)))
/-- .. and the document's. -/
structure OwEnd (w0 w : World) (lb bb g0 r0 g1 r1 : Nat) (T0 : Nat) (lk : Option Kp) (L : List Value) (w3 : World) : Prop where
  st : OwSt w0 w3 lb bb g0 r0 g1 r1 T0
  ok : kok w3 3 lk
  l : kl lk = L
  good : ∀ v ∈ L, GoodI v
  small : L.length < 5000
  new : ∀ x ∈ kg lk, w.heap.size ≤ x
  bk : ∃ B, IsBook w3 bb B ∧ B.t = Prt.nil ∧ (∀ x ∈ B.blocks bb, w0.heap.size ≤ x) ∧ (∀ x ∈ B.blocks bb, x < w.heap.size)
  bel0 : w0.heap.size ≤ w.heap.size
theorem OwMid.rdue {w0 w w2 : World} {lb bb g0 r0 g1 r1 T0 : Nat} {now most : Int} {lk : Option Kp} (h : OwMid w0 w lb bb g0 r0 g1 r1 T0 now most lk w2) (hT : T0 < 900) :
    Calls Try.prog 19 #[.pointer (some ⟨r0, 0, none⟩), .int .i64 now, .int .i64 most] w2 fun v w' => ∃ lk2 L, v = .returned (kval lk2) ∧ OwEnd w0 w lb bb g0 r0 g1 r1 T0 lk L w' ∧ kok w' 3 lk2 ∧ kl lk2 = L := by
  obtain ⟨S0, S1, T1, B0, B1, k0, k1, Q, B2, ht, hn0, hn1, hQ, hd⟩ := h.ex
  obtain ⟨B, hb1, hb2, hb3, hb4⟩ := h.bk
  have hsz := ht.a.ag.size
  have href := ht.a.ref.fr hd.fr (fun x hx => ht.a.ag.ref ht.a.ref x hx)
  refine (rdue_any href (by omega) ht.a.ag.ids ht.a.ag.turns hQ now most).mono ?_
  rintro v w3 ⟨lk2, qk, k3, rfl, hd2⟩
  have hto := PlayedTo.both ht.a hd.ag hd.sub hd.fr hd2.ref hd2.newk hd2.fr
  obtain ⟨B', k', htw, hsub⟩ := ht.playTo hto
  have hrlt : r0 < w.heap.size := ht.a.ref.lt r0 List.mem_cons_self
  have hbk3 : IsBook w3 bb B := hb1.fr hd2.fr (fun x hx hm => by
    obtain rfl : x = r0 := by simpa using hm
    exact hb1.not_ref href x List.mem_cons_self hx)
  refine ⟨lk2, _, rfl, ⟨⟨⟨_, S1, T1, ⟨B', B1, k', k1, htw, fun x hx => ?_, hn1⟩, ?_, ?_⟩, B, hbk3, hb2, hb3⟩, ?_, hd.l, fun v hv => ?_, ?_, hd.new, ⟨B, hbk3, hb2, hb3, hb4⟩, h.bel0⟩, hd2.ok, hd2.l⟩
  · have hb0 := h.bel0
    rcases List.mem_cons.1 hx with hx | hx
    · exact hn0 x (hx ▸ List.mem_cons_self)
    · rcases hsub x hx with h4 | h4
      · exact hn0 x (List.mem_cons_of_mem _ h4)
      · omega
  · refine hd2.fr.heap h.arr (fun hm => ?_)
    obtain rfl : lb = r0 := by simpa using hm
    have := h.arr.symm.trans href.obj
    simp at this
  · refine h.bel.trans (hd2.fr.below h.bel.size (fun x hx => ?_))
    obtain rfl : x = r0 := by simpa using hx
    exact hn0 x List.mem_cons_self
  · exact hd.ok.fr hd2.fr (fun x hx hm => by
      obtain rfl : x = r0 := by simpa using hm
      have := hd.new x hx
      omega)
  · obtain ⟨e, -, rfl⟩ := List.mem_map.1 hv
    exact ⟨e.id, rfl⟩
  · rw [List.length_map, List.length_take]
    have := hQ.perm.length_eq
    omega
/-- The list is kept. -/
theorem OwEnd.keep {w0 w w3 : World} {lb bb g0 r0 g1 r1 T0 : Nat} {lk : Option Kp} {L : List Value} (h : OwEnd w0 w lb bb g0 r0 g1 r1 T0 lk L w3) :
    Calls Try.prog 20 #[.pointer (some ⟨bb, 0, none⟩), kval lk] w3 fun v w' => v = .returned (.tuple #[]) ∧ OwSt w0 w' lb bb g0 r0 g1 r1 T0 := by
  obtain ⟨B, hb1, hb2, hb3, hb4⟩ := h.bk
  obtain ⟨S0, S1, T1, hx⟩ := h.st.st
  obtain ⟨B0, B1, k0, k1, h1, h2, h3⟩ := hx.two
  refine (bytesI_ok hb1 h.ok (fun x hx hm => by have := h.new x hx; have := hb4 x hm; omega) (by rw [h.l]; have := h.small; omega) (by rw [h.l]; exact h.good)).mono ?_
  rintro v w4 ⟨rfl, B', hb', hf, hs, -, hbt⟩
  have e0 := hb1.not_ag h1.a.ag
  have e1 := hb1.not_ag h1.b.ag
  have e2 := hb1.not_ref h1.a.ref
  have e3 := hb1.not_ref h1.b.ref
  refine ⟨rfl, ⟨S0, S1, T1, ⟨B0, B1, k0, k1, ⟨h1.a.fr hf (fun x hx hm => e0 x hm hx) e2, h1.b.fr hf (fun x hx hm => e1 x hm hx) e3, h1.apart, h1.rne, h1.kne⟩, h2, h3⟩, hf.heap hx.arr (hb1.not_cells hx.arr (Or.inr (Or.inr rfl))), hx.bel.trans (hf.below hx.bel.size hb3)⟩, B', hb', hbt.trans hb2, fun x hxx => ?_⟩
  have hb0 := h.bel0
  rcases hs x hxx with h4 | h4 | h4
  · exact hb3 x h4
  · have := h.new x h4; omega
  · have := hx.bel.size; omega
theorem OwEnd.quiet {w0 w w3 w4 : World} {lb bb g0 r0 g1 r1 T0 : Nat} {lk : Option Kp} {L : List Value} (h : OwEnd w0 w lb bb g0 r0 g1 r1 T0 lk L w3) (hf : Fr [] w3 w4) : OwEnd w0 w lb bb g0 r0 g1 r1 T0 lk L w4 := by
  obtain ⟨B, hb1, hb2, hb3, hb4⟩ := h.bk
  obtain ⟨S0, S1, T1, hx⟩ := h.st.st
  exact ⟨⟨⟨S0, S1, T1, hx.new hf⟩, B, hb1.fr hf (by simp), hb2, hb3⟩, h.ok.fr hf (by simp), h.l, h.good, h.small, h.new, ⟨B, hb1.fr hf (by simp), hb2, hb3, hb4⟩, h.bel0⟩
end Go.Proofs.Ytjdkdakepomhdaa
