/- The document's agenda (layer 4): find, Drop, Set, At. -/
import Derived.Test.YtjdkdakepomhdaaAgDue
import Derived.Test.YtjdkdakepomhdaaSz
namespace Go.Proofs.Ytjdkdakepomhdaa
open Go.RowKit

def entC (e : Ent) : List Value := [.int .i64 e.id, .int .i64 e.tm]
def flat (S : List Ent) : List Value := S.flatMap entC
theorem flat_len (S : List Ent) : (flat S).length = S.length * 2 := by
  induction S with
  | nil => rfl
  | cons a r ih => unfold flat at *; rw [List.flatMap_cons, List.length_append, ih]; simp [entC]; omega
theorem flat_append (S R : List Ent) : flat (S ++ R) = flat S ++ flat R := by unfold flat; rw [List.flatMap_append]
theorem flat_one (e : Ent) : flat [e] = entC e := by simp [flat]
theorem flat_drop (S : List Ent) (j : Nat) : (flat S).drop (j * 2) = flat (S.drop j) := by
  conv => lhs; rw [← List.take_append_drop j S, flat_append]
  by_cases h : j ≤ S.length
  · rw [List.drop_append_of_le_length (by rw [flat_len, List.length_take]; omega), List.drop_eq_nil_iff.2 (by rw [flat_len, List.length_take]; omega), List.nil_append]
  · rw [List.drop_eq_nil_iff.2 (by rw [List.length_append, flat_len, flat_len, List.length_take, List.length_drop]; omega), List.drop_eq_nil_iff.2 (by omega)]
    rfl
theorem flat_take (S : List Ent) (j : Nat) : (flat S).take (j * 2) = flat (S.take j) := by
  conv => lhs; rw [← List.take_append_drop j S, flat_append]
  by_cases h : j ≤ S.length
  · have e1 : (flat (S.take j)).length = j * 2 := by rw [flat_len, List.length_take, Nat.min_eq_left h]
    rw [← e1, List.take_left]
  · rw [List.take_of_length_le (by rw [List.length_append, flat_len, flat_len, List.length_take, List.length_drop]; omega), ← flat_append, List.take_append_drop, List.take_of_length_le (by omega)]
theorem flat_at {S : List Ent} {i : Nat} {e : Ent} (h : S[i]? = some e) : (flat S)[i * 2]? = some (.int .i64 e.id) ∧ (flat S)[i * 2 + 1]? = some (.int .i64 e.tm) := by
  obtain ⟨hi, rfl⟩ := List.getElem?_eq_some_iff.1 h
  have h1 := flat_drop S i
  rw [List.drop_eq_getElem_cons hi] at h1
  have h2 : ∀ t, (flat S)[i * 2 + t]? = (flat (S[i] :: S.drop (i + 1)))[t]? := fun t => by rw [← h1, List.getElem?_drop]
  exact ⟨h2 0, h2 1⟩
theorem flat_one_cell (S : List Ent) : ∀ v ∈ flat S, v.oneCell' = true := by
  intro v hv
  obtain ⟨e, _, he⟩ := List.mem_flatMap.1 hv
  simp [entC] at he
  rcases he with rfl | rfl <;> rfl

/-- A slice of entries. -/
structure IsEs (w : World) (k : Option Ks) (S : List Ent) : Prop where
  ok : sok w 63 2 k
  l : sl k = flat S
  n : sn k = S.length
structure IsRef (w : World) (r : Nat) (k : Option Ks) (S : List Ent) : Prop where
  obj : w.heap[r]? = some (.cells #[sval k] 35 (0, 0))
  es : IsEs w k S
theorem IsEs.fr {X : List Nat} {w w' : World} {k : Option Ks} {S : List Ent} (h : IsEs w k S) (hf : Fr X w w') (hx : ∀ x ∈ sg k, x ∉ X) : IsEs w' k S := ⟨h.ok.fr hf hx, h.l, h.n⟩
theorem IsEs.drewN {w : World} {k : Option Ks} {S : List Ent} (h : IsEs w k S) (m : Nat) : IsEs (w.drewN m) k S := h.fr ((Fr.refl [] w).drewN m) (by simp)
theorem IsRef.fr {X : List Nat} {w w' : World} {r : Nat} {k : Option Ks} {S : List Ent} (h : IsRef w r k S) (hf : Fr X w w') (hx : ∀ x ∈ r :: sg k, x ∉ X) : IsRef w' r k S :=
  ⟨hf.heap h.obj (hx r List.mem_cons_self), h.es.fr hf (fun x hm => hx x (List.mem_cons_of_mem _ hm))⟩
theorem IsRef.cell {w : World} {r : Nat} {k : Option Ks} {S : List Ent} (h : IsRef w r k S) : w.cell? ⟨r, 0, none⟩ = some (sval k) := blk_cell' h.obj rfl
theorem IsRef.set {w : World} {r : Nat} {k lk : Option Ks} {S R : List Ent} (h : IsRef w r k S) (he : IsEs w lk R) : r ∉ sg lk → IsRef (w.setCell ⟨r, 0, none⟩ (sval lk)) r lk R := fun hr =>
  ⟨blk_set h.obj 0 _, he.fr ((Fr.refl [r] w).set (by simp) _) (fun x hx hm => hr (by obtain rfl : x = r := by simpa using hm
                                                                                     exact hx))⟩
theorem IsEs.nil (w : World) : IsEs w none [] := ⟨trivial, rfl, rfl⟩
theorem IsEs.open {w : World} {k : Option Ks} {S : List Ent} (h : IsEs w k S) : ∃ p c, sval k = .slice p S.length c ∧ S.length ≤ c ∧ (∀ i e, S[i]? = some e → ∃ g, p = some ⟨g, 0, none⟩ ∧ w.cell? ⟨g, i * 2, none⟩ = some (.int .i64 e.id) ∧ w.cell? ⟨g, i * 2 + 1, none⟩ = some (.int .i64 e.tm)) := by
  refine ⟨sad k, sc k, by rw [sval_eq, h.n], ?_, fun i e hi => ?_⟩
  · rw [← h.n]; cases k <;> simp [sn, sc]
  · cases k with
    | none =>
      have h2 := h.n
      have := (List.getElem?_eq_some_iff.1 hi).1
      simp [sn] at h2
      rw [← h2] at this; simp at this
    | some q =>
      obtain ⟨f1, f2⟩ := flat_at hi
      have hl : q.l = flat S := h.l
      exact ⟨q.g, rfl, Ks.Lies.cellAt h.ok _ _ (by rw [hl]; exact f1), Ks.Lies.cellAt h.ok _ _ (by rw [hl]; exact f2)⟩

set_option maxRecDepth 100000 in
set_option maxHeartbeats 1000000 in
/-- find(id) -/
theorem rfind_any {w : World} {r : Nat} {k : Option Ks} {S : List Ent} (h : IsRef w r k S) (hS : S.length < 100000) (x : Int) : Calls Try.prog 40 #[.pointer (some ⟨r, 0, none⟩), .int .i64 x] w fun v w' =>
    (∃ i : Int, v = .returned (.int .i64 i) ∧ ((i = -1 ∧ ∀ e ∈ S, e.id ≠ x) ∨ ∃ (n : Nat) (e : Ent), i = n ∧ S[n]? = some e ∧ e.id = x)) ∧ w = w' := by
  obtain ⟨p, c, hv, hc, hat⟩ := h.es.open
  have c0 := h.cell
  rw [hv] at c0
  have HAT := Lib.hid hat
  clear h hv hat
  go_enter Try.func40, Try.ntmps40
  go_wp2_with fail
  go_loopg [5] S.length (fun left s5 wr => ∃ j : Nat, j ≤ S.length ∧ S.length - j = left ∧ s5 = .int .i64 j ∧ wr = w ∧ Hid (∀ i e, i < j → S[i]? = some e → e.id ≠ x))
  case atStart => exact ⟨0, Nat.zero_le _, rfl, rfl, rfl, Lib.hid (fun i e hi => by omega)⟩
  case round =>
    obtain ⟨j, hj, rfl, rfl, rfl, HJ⟩ := hrel
    by_cases hj1 : j < S.length
    · obtain ⟨e, he⟩ : ∃ e, S[j]? = some e := ⟨_, List.getElem?_eq_getElem hj1⟩
      obtain ⟨g, rfl, q0, q1⟩ := HAT.out j e he
      have gd : decide ((j : Int) < S.length) = true := by simpa using hj1
      have HE := Lib.hid he
      clear he
      by_cases hx : e.id = x
      · have hb : (e.id == x) = true := by simpa using hx
        go_wp2_with fail
        go_ret
        exact ⟨⟨j, rfl, Or.inr ⟨j, e, rfl, HE.out, hx⟩⟩, rfl⟩
      · have hb : (e.id == x) = false := by simpa using hx
        go_wp2_with fail
        go_roundg (S.length - (j + 1))
        case rel =>
          refine ⟨j + 1, by omega, rfl, rfl, rfl, Lib.hid (fun i f hi hf => ?_)⟩
          by_cases h1 : i < j
          · exact HJ.out i f h1 hf
          · obtain rfl : i = j := by omega
            rw [HE.out] at hf
            obtain rfl := Option.some.inj hf
            exact hx
        case measure => omega
    · have gd : decide ((j : Int) < S.length) = false := by simpa using hj1
      go_wp2_with fail
      go_ret
      refine ⟨⟨-1, rfl, Or.inl ⟨rfl, fun e he => ?_⟩⟩, rfl⟩
      obtain ⟨i, hi, rfl⟩ := List.getElem_of_mem he
      exact HJ.out i _ (by omega) (List.getElem?_eq_getElem hi)

theorem Try.infoEn : (Try.prog.info? 63).map (fun i => (i.zero, i.size, i.bytes)) = some (some (.agg #[.int .i64 0, .int .i64 0]), 2, 16) := by kernel_rfl
theorem cells_new2 (w : World) (E : TypeId) (u v : Value) : Cells (w.alloc (.cells #[u, v] E)) ⟨w.heap.size, 0, none⟩ [u, v] :=
  Cells.of_blk (heap_new w _) 0 _ (fun j x hx => by rw [Nat.zero_add]; simpa using hx)
theorem take_filter_next {S : List Ent} {j : Nat} {e : Ent} (h : S[j]? = some e) (p : Ent → Bool) : (S.take (j + 1)).filter p = (S.take j).filter p ++ (if p e then [e] else []) := by
  rw [List.take_add_one, h, List.filter_append]
  congr 1
  cases hp : p e <;> simp [hp]
theorem IsEs.app {w w' : World} {k : Option Ks} {S R : List Ent} {v : Value} (h : IsEs w k S) (ha : AppS w 63 2 k R.length (flat R) v w') : ∃ k', v = sval k' ∧ IsEs w' k' (S ++ R) ∧ (∀ x ∈ sg k', x ∈ sg k ∨ w.heap.size ≤ x) := by
  obtain ⟨k', h1, h2, h3, h4, h5⟩ := ha.ex
  exact ⟨k', h1, ⟨h2, by rw [h3, h.l, flat_append], by rw [h4, h.n, List.length_append]⟩, h5⟩
theorem sval_open (k : Option Ks) : ∃ p n c, sval k = .slice p n c := ⟨_, _, _, sval_eq k⟩

theorem find_ne {S : List Ent} {x i : Int} (hn : (S.map Ent.id).Nodup) (hi : (i = -1 ∧ ∀ e ∈ S, e.id ≠ x) ∨ ∃ (n : Nat) (e : Ent), i = n ∧ S[n]? = some e ∧ e.id = x) : ∀ (j : Nat) (e : Ent), S[j]? = some e → (((j : Int) != i) = notId x e) := by
  intro j e hj
  rcases hi with ⟨rfl, h⟩ | ⟨n, f, rfl, hn2, hf⟩
  · have h1 : notId x e = true := by simpa [notId] using h e (List.mem_of_getElem? hj)
    rw [h1]; exact bne_iff_ne.2 (by omega)
  · by_cases h1 : j = n
    · subst h1
      rw [hn2] at hj
      obtain rfl := Option.some.inj hj
      have h2 : notId x f = false := by simp [notId, hf]
      rw [h2]; simp
    · have h2 : notId x e = true := by
        simp only [notId, bne_iff_ne]
        intro h3
        have e1 : (S.map Ent.id)[j]? = some x := by rw [List.getElem?_map, hj, ← h3]; rfl
        have e2 : (S.map Ent.id)[n]? = some x := by rw [List.getElem?_map, hn2, ← hf]; rfl
        exact h1 ((List.getElem?_inj (by simpa using (List.getElem?_eq_some_iff.1 hj).1) hn).1 (e1.trans e2.symm))
      rw [h2]; exact bne_iff_ne.2 (by omega)
theorem find_is {S : List Ent} {x i : Int} (hn : (S.map Ent.id).Nodup) (hi : (i = -1 ∧ ∀ e ∈ S, e.id ≠ x) ∨ ∃ (n : Nat) (e : Ent), i = n ∧ S[n]? = some e ∧ e.id = x) : decide ((0 : Int) ≤ i) = (mapOf S x).isSome := by
  rcases hi with ⟨rfl, h⟩ | ⟨n, f, rfl, hn2, rfl⟩
  · rw [mapOf_none.2 h]; rfl
  · rw [mapOf_some hn (List.mem_of_getElem? hn2)]; simp

set_option maxRecDepth 100000 in
set_option maxHeartbeats 1000000 in
/-- Drop(id) -/
theorem rdrop_any {w : World} {r : Nat} {k : Option Ks} {S : List Ent} (h : IsRef w r k S) (hS : S.length < 100000) (hn : (S.map Ent.id).Nodup) (x : Int) : Calls Try.prog 26 #[.pointer (some ⟨r, 0, none⟩), .int .i64 x] w fun v w' =>
    v = .returned (.bool (mapOf S x).isSome) ∧ ∃ k', IsRef w' r k' (S.filter (notId x)) ∧ (∀ y ∈ sg k', w.heap.size ≤ y) ∧ Fr [r] w w' := by
  obtain ⟨ii, hii, hz0, hz1, hz2⟩ := info_parts Try.infoEn
  obtain ⟨p, c, hv, hc, hat⟩ := h.es.open
  have HF := Lib.hid (rfind_any h hS x)
  have HH := Lib.hid h
  have HV := Lib.hid hv
  have HN := Lib.hid hn
  clear h hv hat hn
  go_enter Try.func26, Try.ntmps26
  go_wp2_with (go_at_call 40; refine HF.out.mono ?_; rintro v w1 ⟨⟨i, rfl, hi⟩, rfl⟩; have HI : Hid (∀ (j : Nat) (e : Ent), S[j]? = some e → (((j : Int) != i) = notId x e)) := Lib.hid (find_ne HN.out hi); have HR : Hid (decide ((0 : Int) ≤ i) = (mapOf S x).isSome) := Lib.hid (find_is HN.out hi); clear hi)
  go_loopg [6, 7] S.length (fun left s6 s7 wr => ∃ (j : Nat) (lk : Option Ks), j ≤ S.length ∧ S.length - j = left ∧ s6 = sval lk ∧ s7 = .int .i64 j ∧ Hid (IsEs wr lk ((S.take j).filter (notId x))) ∧ Hid (∀ y ∈ sg lk, w.heap.size ≤ y) ∧ Hid (Fr [] w wr))
  case atStart => exact ⟨0, none, Nat.zero_le _, rfl, rfl, rfl, Lib.hid (IsEs.nil _), Lib.hid (by simp [sg]), Lib.hid (Fr.refl _ _)⟩
  case round =>
    obtain ⟨j, lk, hj, rfl, rfl, rfl, HE, HG, HFR⟩ := hrel
    have c0 := (HH.out.fr HFR.out (by simp)).cell
    rw [HV.out] at c0
    by_cases hj1 : j < S.length
    · obtain ⟨e, he⟩ : ∃ e, S[j]? = some e := ⟨_, List.getElem?_eq_getElem hj1⟩
      obtain ⟨p', c', hv', -, hat'⟩ := (HH.out.fr HFR.out (by simp)).es.open
      obtain ⟨g, rfl, q0, q1⟩ := hat' j e he
      rw [HV.out] at hv'
      obtain ⟨rfl, rfl⟩ : p = some ⟨g, 0, none⟩ ∧ c = c' := by injection hv' with x1 x2 x3; exact ⟨x1, x3⟩
      have gd : decide ((j : Int) < S.length) = true := by simpa using hj1
      have hne := HI.out j e he
      have hnx := take_filter_next he (notId x)
      clear hat' hv' he
      have HNX := Lib.hid hnx
      clear hnx
      cases hx : notId x e
      · rw [hx] at hne HNX
        go_wp2_with fail
        go_roundg (S.length - (j + 1))
        case rel => exact ⟨j + 1, lk, by omega, rfl, rfl, rfl, Lib.hid (by rw [HNX.out]; simpa using HE.out), HG, HFR⟩
        case measure => omega
      · rw [hx] at hne HNX
        obtain ⟨lp, ln, lc, hlk⟩ := sval_open lk
        have HLK := Lib.hid hlk
        rw [hlk]
        clear hlk
        go_wp2_with (at_builtin; refine wpList_apps rfl _ _ 33 rfl 63 ii (.agg #[.int .i64 0, .int .i64 0]) 16 2 Try.underlying33 hii hz0 hz1 hz2 rfl lk HLK.out.symm (HE.out.ok.fr ((Fr.refl [] _).alloc _) (by simp)) _ rfl 1 (flat [e]) (Src.of_cells (cells_new2 _ _ _ _)) rfl (flat_one_cell _) ?_ ?_ ?_)
        · rw [HE.out.n]; have := List.length_filter_le (notId x) (S.take j); rw [List.length_take] at this; omega
        · rw [HE.out.n]; have := List.length_filter_le (notId x) (S.take j); rw [List.length_take] at this; unfold maxLen; omega
        intro v' w3 hA
        obtain ⟨lk', rfl, he', hg'⟩ := (HE.out.fr ((Fr.refl [] _).alloc _) (by simp)).app (R := [e]) hA
        have hF3 : Fr [] w w3 := (HFR.out.alloc _).trans hA.fr (fun y hy => Or.inr (HG.out y hy))
        have HE' := Lib.hid he'
        have HG' : Hid (∀ y ∈ sg lk', w.heap.size ≤ y) := Lib.hid (fun y hy => by
          rcases hg' y hy with h1 | h1
          · exact HG.out y h1
          · rw [World.size_alloc] at h1; have := HFR.out.size; omega)
        have HF3 := Lib.hid hF3
        clear hA he' hg' hF3
        go_wp2_with fail
        go_roundg (S.length - (j + 1))
        case rel => exact ⟨j + 1, lk', by omega, rfl, rfl, rfl, Lib.hid (by rw [HNX.out]; exact HE'.out), HG', HF3⟩
        case measure => omega
    · have gd : decide ((j : Int) < S.length) = false := by simpa using hj1
      obtain rfl : j = S.length := by omega
      have hf0 := blk_free (HFR.out.heap HH.out.obj (by simp)) 0
      obtain ⟨lp, ln, lc, hlk⟩ := sval_open lk
      have hset := IsRef.set (HH.out.fr HFR.out (by simp)) HE.out
      have hsg := HG.out
      rw [List.take_length] at hset
      rw [hlk] at hset ⊢
      have HS := Lib.hid hset
      clear hset hlk hsg
      go_wp2_with fail
      go_ret
      refine ⟨by rw [← HR.out]; rfl, lk, HS.out (fun hm => ?_), HG.out, (HFR.out.mono (T := [r]) (by simp)).set (by simp) _⟩
      have h1 := HG.out r hm
      have h2 := lt_of_heap HH.out.obj
      omega
end Go.Proofs.Ytjdkdakepomhdaa
