/- The document's agenda (layer 4): Set, At, All. -/
import Derived.Test.YtjdkdakepomhdaaRef04
namespace Go.Proofs.Ytjdkdakepomhdaa
open Go.RowKit

set_option maxRecDepth 100000 in
set_option maxHeartbeats 1000000 in
/-- Set(id, at) -/
theorem rset_any {w : World} {r : Nat} {k : Option Ks} {S : List Ent} (h : IsRef w r k S) (hS : S.length < 100000) (hn : (S.map Ent.id).Nodup) (e : Ent) : Calls Try.prog 24 #[.pointer (some ⟨r, 0, none⟩), .int .i64 e.id, .int .i64 e.tm] w fun v w' =>
    v = .returned (.tuple #[]) ∧ ∃ k', IsRef w' r k' (setS S e) ∧ (∀ y ∈ sg k', w.heap.size ≤ y) ∧ Fr [r] w w' := by
  obtain ⟨ii, hii, hz0, hz1, hz2⟩ := info_parts Try.infoEn
  have HD := Lib.hid (rdrop_any h hS hn e.id)
  have HO := Lib.hid (lt_of_heap h.obj)
  clear h
  go_enter Try.func24, Try.ntmps24
  go_wp2_with (first | (go_at_call 26; refine HD.out.mono ?_; rintro v w1 ⟨rfl, k1, hr1, hg1, hf1⟩; have c0 := hr1.cell; obtain ⟨lp, ln, lc, hlk⟩ := sval_open k1; rw [hlk] at c0; have HR1 := Lib.hid hr1; have HG1 := Lib.hid hg1; have HF1 := Lib.hid hf1; have HLK := Lib.hid hlk; clear hr1 hg1 hf1 hlk) | (at_builtin; refine wpList_apps rfl _ _ 33 rfl 63 ii (.agg #[.int .i64 0, .int .i64 0]) 16 2 Try.underlying33 hii hz0 hz1 hz2 rfl k1 HLK.out.symm (HR1.out.es.ok.fr ((Fr.refl [] _).alloc _) (by simp)) _ rfl 1 (flat [e]) (Src.of_cells (cells_new2 _ _ _ _)) rfl (flat_one_cell _) ?_ ?_ ?_))
  · rw [HR1.out.es.n]; have := List.length_filter_le (notId e.id) S; omega
  · rw [HR1.out.es.n]; have := List.length_filter_le (notId e.id) S; unfold maxLen; omega
  intro v' w3 hA
  obtain ⟨lk', rfl, he', hg'⟩ := (HR1.out.es.fr ((Fr.refl [] _).alloc _) (by simp)).app (R := [e]) hA
  have hrn : r ∉ sg k1 := fun hm => by have := HG1.out r hm; have := HO.out; omega
  have F3 : Fr (sg k1) w1 w3 := (((Fr.refl [] w1).alloc _).mono (T := sg k1) (by simp)).trans hA.fr (fun x hx => Or.inl hx)
  have ho3 := F3.heap HR1.out.obj hrn
  have hf0 := blk_free ho3 0
  have hgn : ∀ y ∈ sg lk', w.heap.size ≤ y := fun y hy => by
    rcases hg' y hy with h1 | h1
    · exact HG1.out y h1
    · rw [World.size_alloc] at h1; have := HF1.out.size; omega
  have hrl : r ∉ sg lk' := fun hm => by have := hgn r hm; have := HO.out; omega
  have hc3 : w3.cell? ⟨r, 0, none⟩ = some (sval k1) := blk_cell' ho3 rfl
  have hfin : IsRef (w3.setCell ⟨r, 0, none⟩ (sval lk')) r lk' (setS S e) := ⟨blk_set ho3 0 _, he'.fr ((Fr.refl [r] w3).set (by simp) _) (fun x hx hm => hrl (by
    obtain rfl : x = r := by simpa using hm
    exact hx))⟩
  have FF : Fr [r] w (w3.setCell ⟨r, 0, none⟩ (sval lk')) := ((HF1.out).trans F3 (fun y hy => Or.inr (HG1.out y hy))).set (by simp) _
  obtain ⟨np, nn, nc, hnk⟩ := sval_open lk'
  rw [hnk] at hfin FF ⊢
  have HX := Lib.hid hfin
  have HY := Lib.hid FF
  have HZ := Lib.hid hgn
  clear hfin FF hgn hA he' hg' F3 ho3 hrl hrn
  go_wp2_with fail
  go_end0
  exact ⟨rfl, lk', HX.out, HZ.out, HY.out⟩

theorem find_at {S : List Ent} {x i : Int} {e : Ent} (hn : (S.map Ent.id).Nodup) (he : e ∈ S) (hx : e.id = x) (hi : (i = -1 ∧ ∀ e ∈ S, e.id ≠ x) ∨ ∃ (n : Nat) (e : Ent), i = n ∧ S[n]? = some e ∧ e.id = x) : ∃ n : Nat, i = n ∧ S[n]? = some e := by
  rcases hi with ⟨-, h⟩ | ⟨n, f, rfl, h2, h3⟩
  · exact absurd hx (h e he)
  · refine ⟨n, rfl, ?_⟩
    have h4 := find_id hn he
    have h5 := find_id hn (List.mem_of_getElem? h2)
    rw [h3, ← hx, h4] at h5
    rw [h2, h5]

set_option maxRecDepth 100000 in
set_option maxHeartbeats 1000000 in
/-- At(id) -/
theorem rat_any {w : World} {r : Nat} {k : Option Ks} {S : List Ent} (h : IsRef w r k S) (hS : S.length < 100000) (hn : (S.map Ent.id).Nodup) (x : Int) : Calls Try.prog 27 #[.pointer (some ⟨r, 0, none⟩), .int .i64 x] w fun v w' =>
    v = .returned (.tuple #[.int .i64 (atOf S x), .bool (mapOf S x).isSome]) ∧ w = w' := by
  have HF := Lib.hid (rfind_any h hS x)
  obtain ⟨p, c, hv, hc, hat⟩ := h.es.open
  have c0 := h.cell
  rw [hv] at c0
  have HAT := Lib.hid hat
  have HN := Lib.hid hn
  clear h hv hat hn
  rcases mapOf_cases S x with hno | ⟨e, he, hex⟩
  · have e1 := mapOf_none.2 hno
    have e2 : atOf S x = 0 := by
      unfold atOf
      have : S.find? (fun e => e.id == x) = none := by rw [List.find?_eq_none]; simpa using hno
      rw [this]; rfl
    rw [e1, e2]
    have HNO := Lib.hid hno
    clear hno e1 e2
    go_enter Try.func27, Try.ntmps27
    go_wp2_with (go_at_call 40; refine HF.out.mono ?_; rintro v w1 ⟨⟨i, rfl, hi⟩, rfl⟩; obtain rfl : i = -1 := (by
      rcases hi with ⟨h1, -⟩ | ⟨n, f, -, h2, h3⟩
      · exact h1
      · exact absurd h3 (HNO.out f (List.mem_of_getElem? h2))); clear hi)
    go_ret2
    exact ⟨rfl, rfl⟩
  · have e1 : mapOf S x = some e.blk := hex ▸ mapOf_some HN.out he
    have e2 : atOf S x = e.tm := by unfold atOf; rw [← hex, find_id HN.out he]; rfl
    rw [e1, e2]
    have HE := Lib.hid he
    have HEX := Lib.hid hex
    clear he hex e1 e2
    go_enter Try.func27, Try.ntmps27
    go_wp2_with (go_at_call 40; refine HF.out.mono ?_; rintro v w1 ⟨⟨i, rfl, hi⟩, rfl⟩; obtain ⟨n, rfl, hne⟩ : ∃ n : Nat, i = n ∧ S[n]? = some e := (find_at HN.out HE.out HEX.out hi); obtain ⟨g, rfl, q0, q1⟩ := HAT.out n e hne; have hnl : n < S.length := (List.getElem?_eq_some_iff.1 hne).1; clear hi hne)
    go_ret2
    exact ⟨rfl, rfl⟩
end Go.Proofs.Ytjdkdakepomhdaa
