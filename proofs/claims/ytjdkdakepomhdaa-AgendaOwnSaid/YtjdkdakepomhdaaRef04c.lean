/- The document's agenda (layer 4): All, First, Due. -/
import Derived.Test.YtjdkdakepomhdaaRef04b
import Derived.BigQuiet
namespace Go.Proofs.Ytjdkdakepomhdaa
open Go.RowKit

/-- One more laid into the order. -/
theorem insert_ord {S Q : List Ent} {i k : Nat} {e : Ent} (ht : S.Pairwise (fun a b => a.turn < b.turn)) (hi : S[i]? = some e) (h : Ord (S.take i) Q) (hk : k ≤ Q.length) (hb : ∀ t f, k ≤ t → Q[t]? = some f → e.tm < f.tm) (ha : ∀ f, 0 < k → Q[k - 1]? = some f → f.tm ≤ e.tm) :
    Ord (S.take (i + 1)) (Q.take k ++ ([e] ++ Q.drop k)) := by
  refine ⟨?_, ?_⟩
  · rw [List.take_add_one, hi]
    have h1 : (Q.take k ++ ([e] ++ Q.drop k)).Perm (e :: (Q.take k ++ Q.drop k)) := List.perm_middle
    rw [List.take_append_drop] at h1
    exact h1.trans ((h.perm.cons e).trans (List.perm_append_singleton e _).symm)
  · have hd : (Q.take k ++ Q.drop k).Pairwise Ent.lt := by rw [List.take_append_drop]; exact h.ord
    rw [List.pairwise_append] at hd
    obtain ⟨d1, d2, d3⟩ := hd
    rw [List.pairwise_append]
    refine ⟨d1, ?_, fun a hat b hb' => ?_⟩
    · rw [List.singleton_append, List.pairwise_cons]
      refine ⟨fun b hbm => ?_, d2⟩
      obtain ⟨t, ht', rfl⟩ := List.getElem_of_mem hbm
      have := hb (k + t) _ (by omega) (by rw [← List.getElem?_drop]; exact List.getElem?_eq_getElem ht')
      exact Or.inl this
    · rcases List.mem_append.1 hb' with hb' | hb'
      · obtain rfl : b = e := by simpa using hb'
        have hturn : a.turn < b.turn := by
          have hm : a ∈ S.take i := h.perm.mem_iff.1 (List.mem_of_mem_take hat)
          obtain ⟨j, hj, rfl⟩ := List.getElem_of_mem hm
          rw [List.length_take] at hj
          obtain ⟨hil, rfl⟩ := List.getElem?_eq_some_iff.1 hi
          rw [List.getElem_take]
          exact List.pairwise_iff_getElem.1 ht j i (by omega) hil (by omega)
        have htm : a.tm ≤ b.tm := by
          obtain ⟨j, hj, rfl⟩ := List.getElem_of_mem hat
          rw [List.length_take] at hj
          have hk0 : 0 < k := by omega
          have hl : Q[k - 1]? = some (Q[k - 1]'(by omega)) := List.getElem?_eq_getElem _
          have h2 := ha _ hk0 hl
          rw [List.getElem_take]
          by_cases h3 : j = k - 1
          · subst h3; exact h2
          · have := List.pairwise_iff_getElem.1 h.ord j (k - 1) (by omega) (by omega) (by omega)
            unfold Ent.lt at this
            omega
        unfold Ent.lt; omega
      · exact d3 a hat b hb'

theorem IsEs.src_take {w : World} {k : Option Ks} {S : List Ent} (h : IsEs w k S) {j c : Nat} {p : Option Addr} (hp : sad k = p) (hj : j ≤ S.length) : Src w (.slice p j c) j (flat (S.take j)) := by
  subst hp
  cases k with
  | none =>
    have h2 : 0 = S.length := h.n
    obtain rfl : j = 0 := by omega
    exact Or.inl ⟨rfl, by simp [flat], _, _, rfl⟩
  | some q =>
    refine Or.inr ⟨⟨q.g, 0, none⟩, c, rfl, ?_⟩
    have h1 := (Ks.Lies.cells h.ok).sub 0 (j * 2)
    have hl : q.l = flat S := h.l
    rw [hl, List.drop_zero, flat_take] at h1
    exact h1
theorem IsEs.src_drop {w : World} {k : Option Ks} {S : List Ent} (h : IsEs w k S) {j c : Nat} (hj : j ≤ S.length) {p : Option Addr} (hp : j < S.length → ∀ g, sad k = some ⟨g, 0, none⟩ → p = some ⟨g, j * 2, none⟩) : Src w (.slice p (S.length - j) c) (S.length - j) (flat (S.drop j)) := by
  by_cases hjj : j = S.length
  · subst hjj
    exact Or.inl ⟨by omega, by simp [flat], p, c, by rw [Nat.sub_self]⟩
  · cases k with
    | none =>
      have h2 : 0 = S.length := h.n
      omega
    | some q =>
      rw [hp (by omega) q.g rfl]
      refine Or.inr ⟨⟨q.g, j * 2, none⟩, c, rfl, ?_⟩
      have h1 := (Ks.Lies.cells h.ok).sub (j * 2) ((S.length - j) * 2)
      have hl : q.l = flat S := h.l
      rw [hl, flat_drop, List.take_of_length_le (by rw [flat_len, List.length_drop]; omega), Nat.zero_add] at h1
      exact h1

theorem Value.int_congr {x y : Int} (h : x = y) : Value.int .i64 x = .int .i64 y := by rw [h]
theorem sad_some {k : Option Ks} {ad : Addr} (h : sad k = some ad) : ∃ g, ad = ⟨g, 0, none⟩ := by
  cases k with
  | none => cases h
  | some q => exact ⟨q.g, (Option.some.inj h).symm⟩

set_option maxRecDepth 100000 in
set_option maxHeartbeats 2000000 in
/-- All() -/
theorem rall_any {w : World} {r : Nat} {k : Option Ks} {S : List Ent} (h : IsRef w r k S) (hS : S.length < 100000) (ht : S.Pairwise (fun a b => a.turn < b.turn)) : Calls Try.prog 23 #[.pointer (some ⟨r, 0, none⟩)] w fun v w' =>
    ∃ lk Q, v = .returned (sval lk) ∧ Ord S Q ∧ IsEs w' lk Q ∧ (∀ y ∈ sg lk, w.heap.size ≤ y) ∧ Fr [] w w' := by
  obtain ⟨ii, hii, hz0, hz1, hz2⟩ := info_parts Try.infoEn
  obtain ⟨p, c, hv, hc, hat⟩ := h.es.open
  have HH := Lib.hid h
  have HV := Lib.hid hv
  have HT := Lib.hid ht
  clear h hv hat ht
  go_enter Try.func23, Try.ntmps23
  go_wp2_with fail
  go_loopg [3, 4] S.length (fun left s3 s4 wr => ∃ (i : Nat) (lk : Option Ks) (Q : List Ent), i ≤ S.length ∧ S.length - i = left ∧ s3 = sval lk ∧ s4 = .int .i64 i ∧ Hid (IsEs wr lk Q) ∧ Hid (Ord (S.take i) Q) ∧ Hid (∀ y ∈ sg lk, w.heap.size ≤ y) ∧ Hid (Fr [] w wr))
  case atStart => exact ⟨0, none, [], Nat.zero_le _, rfl, rfl, rfl, Lib.hid (IsEs.nil _), Lib.hid ⟨List.Perm.refl _, List.Pairwise.nil⟩, Lib.hid (by simp [sg]), Lib.hid (Fr.refl _ _)⟩
  case round =>
    obtain ⟨i, lk, Q, hi, rfl, rfl, rfl, HE, HO, HG, HFR⟩ := hrel
    have c0 := (HH.out.fr HFR.out (by simp)).cell
    rw [HV.out] at c0
    by_cases hi1 : i < S.length
    · obtain ⟨e, he⟩ : ∃ e, S[i]? = some e := ⟨_, List.getElem?_eq_getElem hi1⟩
      obtain ⟨p', c', hv', -, hat'⟩ := (HH.out.fr HFR.out (by simp)).es.open
      obtain ⟨g, rfl, -, q1⟩ := hat' i e he
      rw [HV.out] at hv'
      obtain ⟨rfl, rfl⟩ : p = some ⟨g, 0, none⟩ ∧ c = c' := by injection hv' with x1 x2 x3; exact ⟨x1, x3⟩
      have gd : decide ((i : Int) < S.length) = true := by simpa using hi1
      have HQN : Hid (Q.length = i) := Lib.hid (by rw [HO.out.perm.length_eq, List.length_take]; omega)
      have HEI := Lib.hid he
      have hlk : sval lk = .slice (sad lk) Q.length (sc lk) := by rw [sval_eq, HE.out.n]
      have HLK := Lib.hid hlk
      have hcl : Q.length ≤ sc lk := by rw [← HE.out.n]; cases lk <;> simp [sn, sc]
      rw [hlk]
      clear hat' hv' he hlk
      go_wp2_with fail
      go_loopg [5] Q.length (fun left s5 wx => ∃ (j m : Nat), j ≤ Q.length ∧ j = left ∧ s5 = .int .i64 j ∧ wx = wr.drewN m ∧ Hid (∀ t f, j ≤ t → Q[t]? = some f → e.tm < f.tm))
      case atStart => exact ⟨Q.length, 0, Nat.le_refl _, rfl, rfl, rfl, Lib.hid (fun t f h1 h2 => by have := (List.getElem?_eq_some_iff.1 h2).1; omega)⟩
      case round =>
        obtain ⟨j, m, hj, rfl, rfl, rfl, HJ⟩ := hrel
        by_cases hj0 : 0 < j
        · obtain ⟨f, hf⟩ : ∃ f, Q[j - 1]? = some f := ⟨_, List.getElem?_eq_getElem (by omega)⟩
          have gj : decide ((0 : Int) < j) = true := by simpa using hj0
          obtain ⟨p2, c2, hv2, -, hat2⟩ := HE.out.open
          obtain ⟨g2, rfl, -, qf⟩ := hat2 (j - 1) f hf
          rw [HLK.out] at hv2
          obtain ⟨hs2, rfl⟩ : sad lk = some ⟨g2, 0, none⟩ ∧ sc lk = c2 := by injection hv2 with x1 x2 x3; exact ⟨x1, x3⟩
          rw [hs2]
          clear hat2 hv2
          have HF := Lib.hid hf
          have HS2 := Lib.hid hs2
          have hjb : j < 100000 := by have := HQN.out; omega
          have hw1 : wrap64 ((j : Int) - 1) = (j - 1 : Nat) := by rw [IntWalk.wrap64_in] <;> omega
          clear hf hs2
          by_cases hlt : e.tm < f.tm
          · have gf : decide (e.tm < f.tm) = true := by simpa using hlt
            go_wp2_with fail
            go_quiet (fail)
            go_wp2_with fail
            rw [← HS2.out]
            go_roundg (j - 1)
            case rel => exact ⟨j - 1, m + nq, by omega, rfl, Value.int_congr (by omega), rfl, Lib.hid (fun t f' h1 h2 => by
              by_cases h3 : j ≤ t
              · exact HJ.out t f' h3 h2
              · obtain rfl : t = j - 1 := by omega
                rw [HF.out] at h2
                obtain rfl := Option.some.inj h2
                exact hlt)⟩
            case measure => omega
          · have gf : decide (e.tm < f.tm) = false := by simpa using hlt
            have HBK : Hid (∀ f', 0 < j → Q[j - 1]? = some f' → f'.tm ≤ e.tm) := Lib.hid (fun f' _ h2 => by
              rw [HF.out] at h2
              obtain rfl := Option.some.inj h2
              omega)
            go_wp2_with fail
            go_quiet (fail)
            have HSR := Lib.hid ((HE.out.drewN (m + nq)).src_take (c := sc lk) HS2.out hj)
            go_wp2_with (at_builtin; refine wpList_apps rfl _ _ 33 rfl 63 ii (.agg #[.int .i64 0, .int .i64 0]) 16 2 Try.underlying33 hii hz0 hz1 hz2 rfl none rfl trivial _ rfl j (flat (Q.take j)) HSR.out ?_ (flat_one_cell _) ?_ ?_ ?_)
            · rw [flat_len, List.length_take]; omega
            · have := HQN.out; simp only [sn]; omega
            · have := HQN.out; simp only [sn]; unfold maxLen; omega
            intro v1 w1 hA1
            have hA1' : AppS (wr.drewN (m + nq)) 63 2 none (Q.take j).length (flat (Q.take j)) v1 w1 := by rw [show (Q.take j).length = j by rw [List.length_take]; omega]; exact hA1
            obtain ⟨k1, rfl, he1, hg1⟩ := (IsEs.nil _).app hA1'
            have HF1 : Hid (Fr [] w w1) := Lib.hid ((HFR.out.drewN (m + nq)).trans hA1.fr (fun y hy => by cases hy))
            have HE1 := Lib.hid he1
            have HG1 : Hid (∀ y ∈ sg k1, w.heap.size ≤ y) := Lib.hid (fun y hy => by
              rcases hg1 y hy with h1 | h1
              · cases h1
              · exact Nat.le_trans HFR.out.size h1)
            have HDJ : Hid (∀ y ∈ sg lk, y ∉ sg k1) := Lib.hid (fun y hy hm => by
              have h2 := HE.out.ok.lt y hy
              rcases hg1 y hm with h1 | h1
              · cases h1
              · exact absurd (show wr.heap.size ≤ y from h1) (by omega))
            have HL1 : Hid (IsEs w1 lk Q) := Lib.hid ((HE.out.drewN (m + nq)).fr hA1.fr (fun y _ hm => by cases hm))
            have d0 := (HH.out.fr HF1.out (fun y _ hm => by cases hm)).cell
            rw [HV.out] at d0
            obtain ⟨p3, c3, hv3, -, hat3⟩ := (HH.out.fr HF1.out (fun y _ hm => by cases hm)).es.open
            obtain ⟨g3, rfl, d2, d1⟩ := hat3 i e HEI.out
            rw [HV.out] at hv3
            obtain ⟨hg3, rfl⟩ : some (⟨g, 0, none⟩ : Addr) = some ⟨g3, 0, none⟩ ∧ c = c3 := by injection hv3 with x1 x2 x3; exact ⟨x1, x3⟩
            obtain rfl : g = g3 := by injection hg3 with hg3; injection hg3
            obtain ⟨p1, n1, c1, hk1⟩ := sval_open k1
            have HK1 := Lib.hid hk1
            rw [hk1]
            clear hA1 hA1' he1 hg1 hk1 hat3 hv3 hg3
            go_wp2_with (at_builtin; refine wpList_apps rfl _ _ 33 rfl 63 ii (.agg #[.int .i64 0, .int .i64 0]) 16 2 Try.underlying33 hii hz0 hz1 hz2 rfl k1 HK1.out.symm (HE1.out.ok.fr ((Fr.refl [] _).alloc _) (by simp)) _ rfl 1 (flat [e]) (Src.of_cells (cells_new2 _ _ _ _)) rfl (flat_one_cell _) ?_ ?_ ?_)
            · rw [HE1.out.n, List.nil_append, List.length_take]; have := HQN.out; omega
            · rw [HE1.out.n, List.nil_append, List.length_take]; have := HQN.out; unfold maxLen; omega
            intro v2 w2 hA2
            obtain ⟨k2, rfl, he2, hg2'⟩ := (HE1.out.fr ((Fr.refl [] _).alloc _) (by simp)).app (R := [e]) hA2
            have F12 : Fr (sg k1) w1 w2 := (((Fr.refl [] w1).alloc _).mono (T := sg k1) (fun x hx => by cases hx)).trans hA2.fr (fun x hx => Or.inl hx)
            have HF2 : Hid (Fr [] w w2) := Lib.hid (HF1.out.trans F12 (fun y hy => Or.inr (HG1.out y hy)))
            have HE2 := Lib.hid he2
            have HG2 : Hid (∀ y ∈ sg k2, w.heap.size ≤ y) := Lib.hid (fun y hy => by
              rcases hg2' y hy with h1 | h1
              · exact HG1.out y h1
              · rw [World.size_alloc] at h1; have := HF1.out.size; omega)
            have HL2 : Hid (IsEs w2 lk Q) := Lib.hid (HL1.out.fr F12 (fun y hy hm => HDJ.out y hy hm))
            obtain ⟨p2', n2, c2', hk2⟩ := sval_open k2
            have HK2 := Lib.hid hk2
            rw [hk2]
            clear hA2 he2 hg2' hk2 F12
            go_wp2_with (at_builtin; refine wpList_apps rfl _ _ 33 rfl 63 ii (.agg #[.int .i64 0, .int .i64 0]) 16 2 Try.underlying33 hii hz0 hz1 hz2 rfl k2 HK2.out.symm HE2.out.ok _ rfl (Q.length - j) (flat (Q.drop j)) (HL2.out.src_drop hj ?_) ?_ (flat_one_cell _) ?_ ?_ ?_)
            all_goals first
              | (intro hjl g' hg'; have hz := HS2.out.symm.trans hg'; first | omega | (cases hz; done) | (cases hz; rfl) | (cases hz; congr 2; omega))
              | (rw [flat_len, List.length_drop]; done)
              | (rw [HE2.out.n]; have := HQN.out; simp only [List.nil_append, List.length_append, List.length_take, List.length_singleton]; omega)
              | (unfold maxLen; rw [HE2.out.n]; have := HQN.out; simp only [List.nil_append, List.length_append, List.length_take, List.length_singleton]; omega)
              | skip
            all_goals
              intro v3 w3 hA3
              have hA3' : AppS w2 63 2 k2 (Q.drop j).length (flat (Q.drop j)) v3 w3 := by rw [List.length_drop]; exact hA3
              obtain ⟨k3, rfl, he3, hg3⟩ := HE2.out.app hA3'
              have HF3 := Lib.hid (HF2.out.trans hA3.fr (fun y hy => Or.inr (HG2.out y hy)))
              have HE3 := Lib.hid he3
              have HG3 : Hid (∀ y ∈ sg k3, w.heap.size ≤ y) := Lib.hid (fun y hy => by
                rcases hg3 y hy with h1 | h1
                · exact HG2.out y h1
                · exact Nat.le_trans HF2.out.size h1)
              have HO3 := Lib.hid (insert_ord HT.out HEI.out HO.out hj HJ.out (by first | exact HBK.out | (intro f h0; exact absurd h0 (Nat.lt_irrefl 0))))
              rw [List.nil_append, List.append_assoc] at HE3
              clear hA3 hA3' he3 hg3
              go_wp2_with fail
              go_roundg (S.length - (i + 1))
              case rel => exact ⟨i + 1, k3, _, by omega, rfl, rfl, rfl, HE3, HO3, HG3, HF3⟩
              case measure => omega
        · obtain rfl : j = 0 := by omega
          rcases hsad : sad lk with _ | ad
          · have HS2 := Lib.hid hsad
            clear hsad
            go_wp2_with fail
            go_quiet (fail)
            have HSR := Lib.hid ((HE.out.drewN (m + nq)).src_take (c := sc lk) HS2.out hj)
            go_wp2_with (at_builtin; refine wpList_apps rfl _ _ 33 rfl 63 ii (.agg #[.int .i64 0, .int .i64 0]) 16 2 Try.underlying33 hii hz0 hz1 hz2 rfl none rfl trivial _ rfl 0 (flat (Q.take 0)) HSR.out ?_ (flat_one_cell _) ?_ ?_ ?_)
            · rw [flat_len, List.length_take]; omega
            · have := HQN.out; simp only [sn]; omega
            · have := HQN.out; simp only [sn]; unfold maxLen; omega
            intro v1 w1 hA1
            have hA1' : AppS (wr.drewN (m + nq)) 63 2 none (Q.take 0).length (flat (Q.take 0)) v1 w1 := by rw [show (Q.take 0).length = 0 by rw [List.length_take]; omega]; exact hA1
            obtain ⟨k1, rfl, he1, hg1⟩ := (IsEs.nil _).app hA1'
            have HF1 : Hid (Fr [] w w1) := Lib.hid ((HFR.out.drewN (m + nq)).trans hA1.fr (fun y hy => by cases hy))
            have HE1 := Lib.hid he1
            have HG1 : Hid (∀ y ∈ sg k1, w.heap.size ≤ y) := Lib.hid (fun y hy => by
              rcases hg1 y hy with h1 | h1
              · cases h1
              · exact Nat.le_trans HFR.out.size h1)
            have HDJ : Hid (∀ y ∈ sg lk, y ∉ sg k1) := Lib.hid (fun y hy hm => by
              have h2 := HE.out.ok.lt y hy
              rcases hg1 y hm with h1 | h1
              · cases h1
              · exact absurd (show wr.heap.size ≤ y from h1) (by omega))
            have HL1 : Hid (IsEs w1 lk Q) := Lib.hid ((HE.out.drewN (m + nq)).fr hA1.fr (fun y _ hm => by cases hm))
            have d0 := (HH.out.fr HF1.out (fun y _ hm => by cases hm)).cell
            rw [HV.out] at d0
            obtain ⟨p3, c3, hv3, -, hat3⟩ := (HH.out.fr HF1.out (fun y _ hm => by cases hm)).es.open
            obtain ⟨g3, rfl, d2, d1⟩ := hat3 i e HEI.out
            rw [HV.out] at hv3
            obtain ⟨hg3, rfl⟩ : some (⟨g, 0, none⟩ : Addr) = some ⟨g3, 0, none⟩ ∧ c = c3 := by injection hv3 with x1 x2 x3; exact ⟨x1, x3⟩
            obtain rfl : g = g3 := by injection hg3 with hg3; injection hg3
            obtain ⟨p1, n1, c1, hk1⟩ := sval_open k1
            have HK1 := Lib.hid hk1
            rw [hk1]
            clear hA1 hA1' he1 hg1 hk1 hat3 hv3 hg3
            go_wp2_with (at_builtin; refine wpList_apps rfl _ _ 33 rfl 63 ii (.agg #[.int .i64 0, .int .i64 0]) 16 2 Try.underlying33 hii hz0 hz1 hz2 rfl k1 HK1.out.symm (HE1.out.ok.fr ((Fr.refl [] _).alloc _) (by simp)) _ rfl 1 (flat [e]) (Src.of_cells (cells_new2 _ _ _ _)) rfl (flat_one_cell _) ?_ ?_ ?_)
            · rw [HE1.out.n, List.nil_append, List.length_take]; have := HQN.out; omega
            · rw [HE1.out.n, List.nil_append, List.length_take]; have := HQN.out; unfold maxLen; omega
            intro v2 w2 hA2
            obtain ⟨k2, rfl, he2, hg2'⟩ := (HE1.out.fr ((Fr.refl [] _).alloc _) (by simp)).app (R := [e]) hA2
            have F12 : Fr (sg k1) w1 w2 := (((Fr.refl [] w1).alloc _).mono (T := sg k1) (fun x hx => by cases hx)).trans hA2.fr (fun x hx => Or.inl hx)
            have HF2 : Hid (Fr [] w w2) := Lib.hid (HF1.out.trans F12 (fun y hy => Or.inr (HG1.out y hy)))
            have HE2 := Lib.hid he2
            have HG2 : Hid (∀ y ∈ sg k2, w.heap.size ≤ y) := Lib.hid (fun y hy => by
              rcases hg2' y hy with h1 | h1
              · exact HG1.out y h1
              · rw [World.size_alloc] at h1; have := HF1.out.size; omega)
            have HL2 : Hid (IsEs w2 lk Q) := Lib.hid (HL1.out.fr F12 (fun y hy hm => HDJ.out y hy hm))
            obtain ⟨p2', n2, c2', hk2⟩ := sval_open k2
            have HK2 := Lib.hid hk2
            rw [hk2]
            clear hA2 he2 hg2' hk2 F12
            go_wp2_with (at_builtin; refine wpList_apps rfl _ _ 33 rfl 63 ii (.agg #[.int .i64 0, .int .i64 0]) 16 2 Try.underlying33 hii hz0 hz1 hz2 rfl k2 HK2.out.symm HE2.out.ok _ rfl (Q.length - 0) (flat (Q.drop 0)) (HL2.out.src_drop hj ?_) ?_ (flat_one_cell _) ?_ ?_ ?_)
            all_goals first
              | (intro hjl g' hg'; have hz := HS2.out.symm.trans hg'; first | omega | (cases hz; done) | (cases hz; rfl) | (cases hz; congr 2; omega))
              | (rw [flat_len, List.length_drop]; done)
              | (rw [HE2.out.n]; have := HQN.out; simp only [List.nil_append, List.length_append, List.length_take, List.length_singleton]; omega)
              | (unfold maxLen; rw [HE2.out.n]; have := HQN.out; simp only [List.nil_append, List.length_append, List.length_take, List.length_singleton]; omega)
              | skip
            all_goals
              intro v3 w3 hA3
              have hA3' : AppS w2 63 2 k2 (Q.drop 0).length (flat (Q.drop 0)) v3 w3 := by rw [List.length_drop]; exact hA3
              obtain ⟨k3, rfl, he3, hg3⟩ := HE2.out.app hA3'
              have HF3 := Lib.hid (HF2.out.trans hA3.fr (fun y hy => Or.inr (HG2.out y hy)))
              have HE3 := Lib.hid he3
              have HG3 : Hid (∀ y ∈ sg k3, w.heap.size ≤ y) := Lib.hid (fun y hy => by
                rcases hg3 y hy with h1 | h1
                · exact HG2.out y h1
                · exact Nat.le_trans HF2.out.size h1)
              have HO3 := Lib.hid (insert_ord HT.out HEI.out HO.out hj HJ.out (by first | exact HBK.out | (intro f h0; exact absurd h0 (Nat.lt_irrefl 0))))
              rw [List.nil_append, List.append_assoc] at HE3
              clear hA3 hA3' he3 hg3
              go_wp2_with fail
              go_roundg (S.length - (i + 1))
              case rel => exact ⟨i + 1, k3, _, by omega, rfl, rfl, rfl, HE3, HO3, HG3, HF3⟩
              case measure => omega
          · obtain ⟨g2, rfl⟩ := sad_some hsad
            have HS2 := Lib.hid hsad
            clear hsad
            go_wp2_with fail
            go_quiet (fail)
            have HSR := Lib.hid ((HE.out.drewN (m + nq)).src_take (c := sc lk) HS2.out hj)
            go_wp2_with (at_builtin; refine wpList_apps rfl _ _ 33 rfl 63 ii (.agg #[.int .i64 0, .int .i64 0]) 16 2 Try.underlying33 hii hz0 hz1 hz2 rfl none rfl trivial _ rfl 0 (flat (Q.take 0)) HSR.out ?_ (flat_one_cell _) ?_ ?_ ?_)
            · rw [flat_len, List.length_take]; omega
            · have := HQN.out; simp only [sn]; omega
            · have := HQN.out; simp only [sn]; unfold maxLen; omega
            intro v1 w1 hA1
            have hA1' : AppS (wr.drewN (m + nq)) 63 2 none (Q.take 0).length (flat (Q.take 0)) v1 w1 := by rw [show (Q.take 0).length = 0 by rw [List.length_take]; omega]; exact hA1
            obtain ⟨k1, rfl, he1, hg1⟩ := (IsEs.nil _).app hA1'
            have HF1 : Hid (Fr [] w w1) := Lib.hid ((HFR.out.drewN (m + nq)).trans hA1.fr (fun y hy => by cases hy))
            have HE1 := Lib.hid he1
            have HG1 : Hid (∀ y ∈ sg k1, w.heap.size ≤ y) := Lib.hid (fun y hy => by
              rcases hg1 y hy with h1 | h1
              · cases h1
              · exact Nat.le_trans HFR.out.size h1)
            have HDJ : Hid (∀ y ∈ sg lk, y ∉ sg k1) := Lib.hid (fun y hy hm => by
              have h2 := HE.out.ok.lt y hy
              rcases hg1 y hm with h1 | h1
              · cases h1
              · exact absurd (show wr.heap.size ≤ y from h1) (by omega))
            have HL1 : Hid (IsEs w1 lk Q) := Lib.hid ((HE.out.drewN (m + nq)).fr hA1.fr (fun y _ hm => by cases hm))
            have d0 := (HH.out.fr HF1.out (fun y _ hm => by cases hm)).cell
            rw [HV.out] at d0
            obtain ⟨p3, c3, hv3, -, hat3⟩ := (HH.out.fr HF1.out (fun y _ hm => by cases hm)).es.open
            obtain ⟨g3, rfl, d2, d1⟩ := hat3 i e HEI.out
            rw [HV.out] at hv3
            obtain ⟨hg3, rfl⟩ : some (⟨g, 0, none⟩ : Addr) = some ⟨g3, 0, none⟩ ∧ c = c3 := by injection hv3 with x1 x2 x3; exact ⟨x1, x3⟩
            obtain rfl : g = g3 := by injection hg3 with hg3; injection hg3
            obtain ⟨p1, n1, c1, hk1⟩ := sval_open k1
            have HK1 := Lib.hid hk1
            rw [hk1]
            clear hA1 hA1' he1 hg1 hk1 hat3 hv3 hg3
            go_wp2_with (at_builtin; refine wpList_apps rfl _ _ 33 rfl 63 ii (.agg #[.int .i64 0, .int .i64 0]) 16 2 Try.underlying33 hii hz0 hz1 hz2 rfl k1 HK1.out.symm (HE1.out.ok.fr ((Fr.refl [] _).alloc _) (by simp)) _ rfl 1 (flat [e]) (Src.of_cells (cells_new2 _ _ _ _)) rfl (flat_one_cell _) ?_ ?_ ?_)
            · rw [HE1.out.n, List.nil_append, List.length_take]; have := HQN.out; omega
            · rw [HE1.out.n, List.nil_append, List.length_take]; have := HQN.out; unfold maxLen; omega
            intro v2 w2 hA2
            obtain ⟨k2, rfl, he2, hg2'⟩ := (HE1.out.fr ((Fr.refl [] _).alloc _) (by simp)).app (R := [e]) hA2
            have F12 : Fr (sg k1) w1 w2 := (((Fr.refl [] w1).alloc _).mono (T := sg k1) (fun x hx => by cases hx)).trans hA2.fr (fun x hx => Or.inl hx)
            have HF2 : Hid (Fr [] w w2) := Lib.hid (HF1.out.trans F12 (fun y hy => Or.inr (HG1.out y hy)))
            have HE2 := Lib.hid he2
            have HG2 : Hid (∀ y ∈ sg k2, w.heap.size ≤ y) := Lib.hid (fun y hy => by
              rcases hg2' y hy with h1 | h1
              · exact HG1.out y h1
              · rw [World.size_alloc] at h1; have := HF1.out.size; omega)
            have HL2 : Hid (IsEs w2 lk Q) := Lib.hid (HL1.out.fr F12 (fun y hy hm => HDJ.out y hy hm))
            obtain ⟨p2', n2, c2', hk2⟩ := sval_open k2
            have HK2 := Lib.hid hk2
            rw [hk2]
            clear hA2 he2 hg2' hk2 F12
            go_wp2_with (at_builtin; refine wpList_apps rfl _ _ 33 rfl 63 ii (.agg #[.int .i64 0, .int .i64 0]) 16 2 Try.underlying33 hii hz0 hz1 hz2 rfl k2 HK2.out.symm HE2.out.ok _ rfl (Q.length - 0) (flat (Q.drop 0)) (HL2.out.src_drop hj ?_) ?_ (flat_one_cell _) ?_ ?_ ?_)
            all_goals first
              | (intro hjl g' hg'; have hz := HS2.out.symm.trans hg'; first | omega | (cases hz; done) | (cases hz; rfl) | (cases hz; congr 2; omega))
              | (rw [flat_len, List.length_drop]; done)
              | (rw [HE2.out.n]; have := HQN.out; simp only [List.nil_append, List.length_append, List.length_take, List.length_singleton]; omega)
              | (unfold maxLen; rw [HE2.out.n]; have := HQN.out; simp only [List.nil_append, List.length_append, List.length_take, List.length_singleton]; omega)
              | skip
            all_goals
              intro v3 w3 hA3
              have hA3' : AppS w2 63 2 k2 (Q.drop 0).length (flat (Q.drop 0)) v3 w3 := by rw [List.length_drop]; exact hA3
              obtain ⟨k3, rfl, he3, hg3⟩ := HE2.out.app hA3'
              have HF3 := Lib.hid (HF2.out.trans hA3.fr (fun y hy => Or.inr (HG2.out y hy)))
              have HE3 := Lib.hid he3
              have HG3 : Hid (∀ y ∈ sg k3, w.heap.size ≤ y) := Lib.hid (fun y hy => by
                rcases hg3 y hy with h1 | h1
                · exact HG2.out y h1
                · exact Nat.le_trans HF2.out.size h1)
              have HO3 := Lib.hid (insert_ord HT.out HEI.out HO.out hj HJ.out (by first | exact HBK.out | (intro f h0; exact absurd h0 (Nat.lt_irrefl 0))))
              rw [List.nil_append, List.append_assoc] at HE3
              clear hA3 hA3' he3 hg3
              go_wp2_with fail
              go_roundg (S.length - (i + 1))
              case rel => exact ⟨i + 1, k3, _, by omega, rfl, rfl, rfl, HE3, HO3, HG3, HF3⟩
              case measure => omega
    · have gd : decide ((i : Int) < S.length) = false := by simpa using hi1
      obtain rfl : i = S.length := by omega
      have hoo := HO.out
      rw [List.take_length] at hoo
      have HOO := Lib.hid hoo
      clear hoo
      go_wp2_with fail
      go_ret
      exact ⟨lk, Q, rfl, HOO.out, HE.out, HG.out, HFR.out⟩
end Go.Proofs.Ytjdkdakepomhdaa
