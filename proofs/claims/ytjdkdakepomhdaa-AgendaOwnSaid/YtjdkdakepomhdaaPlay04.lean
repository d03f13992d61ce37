/- Layer 4's law: an agenda of the program's beside the document's; one call. -/
import Derived.Test.YtjdkdakepomhdaaRef04e
import Derived.Test.YtjdkdakepomhdaaStands
namespace Go.Proofs.Ytjdkdakepomhdaa
open Go.RowKit

/-- The program's agenda and the document's. -/
structure Pr (w : World) (g r : Nat) (S : List Ent) (T : Nat) (B : List Nat) (k : Option Ks) : Prop where
  ag : IsAg w g S T B
  ref : IsRef w r k S
theorem IsAg.kinds {w : World} {g : Nat} {S : List Ent} {T : Nat} {B : List Nat} (h : IsAg w g S T B) : ∀ x ∈ B, ∃ o, w.heap[x]? = some o ∧ ∀ cs t fr, o = .cells cs t fr → t = 70 ∨ t = 71 ∨ t = 74 := by
  obtain ⟨m, k, L, h1, h2, h3, h4, rfl⟩ := h.ex
  intro x hx
  rcases List.mem_cons.1 hx with hx | hx
  · exact ⟨_, hx ▸ h1.obj, fun cs t fr e => by injection e with e1 e2 e3; exact Or.inl e2.symm⟩
  · rcases List.mem_cons.1 hx with hx | hx
    · obtain ⟨es, c, ho⟩ := h4.obj
      exact ⟨_, hx ▸ ho, fun cs t fr e => by cases e⟩
    · rcases List.mem_append.1 hx with hx | hx
      · cases k with
        | none => cases hx
        | some q =>
          have e1 : x = q.g := by simpa [kg] using hx
          exact ⟨_, e1 ▸ Kp.Lies.heap h1.ok, fun cs t fr e => by injection e with e1 e2 e3; exact Or.inr (Or.inl e2.symm)⟩
      · obtain ⟨e, he, e1⟩ := List.mem_map.1 hx
        obtain ⟨i, hi, rfl⟩ := List.getElem_of_mem he
        have h5 : w.heap[L[i].blk]? = _ := h1.ents i _ (List.getElem?_eq_getElem hi)
        rw [e1] at h5
        exact ⟨_, h5, fun cs t fr e => by injection e with e1 e2 e3; exact Or.inr (Or.inr e2.symm)⟩
theorem IsAg.not_in {w : World} {g : Nat} {S : List Ent} {T : Nat} {B : List Nat} (h : IsAg w g S T B) {x : Nat} {cs : Array Value} {t : TypeId} {fr : Nat × Nat} (hx : w.heap[x]? = some (.cells cs t fr)) (h1 : t ≠ 70) (h2 : t ≠ 71) (h3 : t ≠ 74) : x ∉ B := by
  intro hm
  obtain ⟨o, ho, hk⟩ := h.kinds x hm
  rw [hx] at ho
  rcases hk cs t fr (Option.some.inj ho).symm with e | e | e
  · exact h1 e
  · exact h2 e
  · exact h3 e
theorem IsAg.ref {w : World} {g r : Nat} {S S' : List Ent} {T : Nat} {B : List Nat} {k : Option Ks} (h : IsAg w g S T B) (h' : IsRef w r k S') : ∀ x ∈ r :: sg k, x ∉ B := by
  intro x hx
  rcases List.mem_cons.1 hx with rfl | hx
  · exact h.not_in h'.obj (by decide) (by decide) (by decide)
  · cases k with
    | none => cases hx
    | some q =>
      obtain rfl : x = q.g := by simpa [sg] using hx
      exact h.not_in (Ks.Lies.heap h'.es.ok) (by decide) (by decide) (by decide)
theorem IsRef.lt {w : World} {r : Nat} {k : Option Ks} {S : List Ent} (h : IsRef w r k S) : ∀ x ∈ r :: sg k, x < w.heap.size := by
  intro x hx
  rcases List.mem_cons.1 hx with rfl | hx
  · exact lt_of_heap h.obj
  · exact h.es.ok.lt x hx
theorem Pr.fr {X : List Nat} {w w' : World} {g r : Nat} {S : List Ent} {T : Nat} {B : List Nat} {k : Option Ks} (h : Pr w g r S T B k) (hf : Fr X w w') (h1 : ∀ x ∈ B, x ∉ X) (h2 : ∀ x ∈ r :: sg k, x ∉ X) : Pr w' g r S T B k :=
  ⟨h.ag.fr hf h1, h.ref.fr hf h2⟩

/-- One call, played. -/
structure Played (w : World) (g r : Nat) (T : Nat) (B : List Nat) (k : Option Ks) (w' : World) : Prop where
  ex : ∃ S' T' B' k', Pr w' g r S' T' B' k' ∧ T' ≤ T + 1 ∧ (∀ x ∈ B', x ∈ B ∨ w.heap.size ≤ x) ∧ (∀ x ∈ sg k', x ∈ sg k ∨ w.heap.size ≤ x)
  fr : Fr (r :: B) w w'
theorem Played.same {w w' : World} {g r : Nat} {S : List Ent} {T : Nat} {B : List Nat} {k : Option Ks} (h : Pr w g r S T B k) (hf : Fr [] w w') : Played w g r T B k w' :=
  ⟨⟨S, T, B, k, h.fr hf (by simp) (by simp), Nat.le_succ T, fun x hx => Or.inl hx, fun x hx => Or.inl hx⟩, hf.mono (by simp)⟩
/-- Behind new blocks. -/
theorem Played.after {w w1 w' : World} {g r : Nat} {T : Nat} {B : List Nat} {k : Option Ks} (hf : Fr [] w w1) (h : Played w1 g r T B k w') : Played w g r T B k w' := by
  obtain ⟨S', T', B', k', h1, h2, h3, h4⟩ := h.ex
  refine ⟨⟨S', T', B', k', h1, h2, fun x hx => ?_, fun x hx => ?_⟩, (hf.mono (T := r :: B) (by simp)).trans h.fr (fun x hx => Or.inl hx)⟩
  · rcases h3 x hx with h | h
    · exact Or.inl h
    · exact Or.inr (Nat.le_trans hf.size h)
  · rcases h4 x hx with h | h
    · exact Or.inl h
    · exact Or.inr (Nat.le_trans hf.size h)
/-- The agenda's step, then the document's. -/
theorem Played.both {w w1 w2 : World} {g r : Nat} {S S' : List Ent} {T T' : Nat} {B B' : List Nat} {k k' : Option Ks} (h : Pr w g r S T B k) (ha : IsAg w1 g S' T' B') (hT : T' ≤ T + 1) (hb : ∀ x ∈ B', x ∈ B ∨ w.heap.size ≤ x) (hf1 : Fr B w w1)
    (hr : IsRef w2 r k' S') (hn : ∀ x ∈ sg k', x ∈ sg k ∨ w1.heap.size ≤ x) (hf2 : Fr [r] w1 w2) : Played w g r T B k w2 := by
  have hr1 := h.ref.fr hf1 (fun x hx => h.ag.ref h.ref x hx)
  have hnr : ∀ x ∈ B', x ∉ [r] := fun x hx hm => by
    obtain rfl : x = r := by simpa using hm
    exact ha.ref hr1 x List.mem_cons_self hx
  refine ⟨⟨S', T', B', k', ⟨ha.fr hf2 hnr, hr⟩, hT, hb, fun x hx => ?_⟩, (hf1.mono (T := r :: B) (fun x hx => Or.inl (List.mem_cons_of_mem _ hx))).trans hf2 (fun x hx => Or.inl (by
    obtain rfl : x = r := by simpa using hx
    exact List.mem_cons_self))⟩
  rcases hn x hx with h1 | h1
  · exact Or.inl h1
  · exact Or.inr (Nat.le_trans hf1.size h1)

/-- One call, played, with what it leaves. -/
structure PlayedTo (w : World) (g r : Nat) (B : List Nat) (k : Option Ks) (w' : World) (S' : List Ent) (T' : Nat) : Prop where
  ex : ∃ B' k', Pr w' g r S' T' B' k' ∧ (∀ x ∈ B', x ∈ B ∨ w.heap.size ≤ x) ∧ (∀ x ∈ sg k', x ∈ sg k ∨ w.heap.size ≤ x)
  fr : Fr (r :: B) w w'
theorem PlayedTo.played {w w' : World} {g r : Nat} {T T' : Nat} {B : List Nat} {k : Option Ks} {S' : List Ent} (h : PlayedTo w g r B k w' S' T') (hT : T' ≤ T + 1) : Played w g r T B k w' := by
  obtain ⟨B', k', h1, h3, h4⟩ := h.ex
  exact ⟨⟨S', T', B', k', h1, hT, h3, h4⟩, h.fr⟩
theorem PlayedTo.after {w w1 w' : World} {g r : Nat} {T' : Nat} {B : List Nat} {k : Option Ks} {S' : List Ent} (hf : Fr [] w w1) (h : PlayedTo w1 g r B k w' S' T') : PlayedTo w g r B k w' S' T' := by
  obtain ⟨B', k', h1, h3, h4⟩ := h.ex
  refine ⟨⟨B', k', h1, fun x hx => ?_, fun x hx => ?_⟩, (hf.mono (T := r :: B) (by simp)).trans h.fr (fun x hx => Or.inl hx)⟩
  · rcases h3 x hx with h | h
    · exact Or.inl h
    · exact Or.inr (Nat.le_trans hf.size h)
  · rcases h4 x hx with h | h
    · exact Or.inl h
    · exact Or.inr (Nat.le_trans hf.size h)
theorem PlayedTo.both {w w1 w2 : World} {g r : Nat} {S S' : List Ent} {T T' : Nat} {B B' : List Nat} {k k' : Option Ks} (h : Pr w g r S T B k) (ha : IsAg w1 g S' T' B') (hb : ∀ x ∈ B', x ∈ B ∨ w.heap.size ≤ x) (hf1 : Fr B w w1)
    (hr : IsRef w2 r k' S') (hn : ∀ x ∈ sg k', x ∈ sg k ∨ w1.heap.size ≤ x) (hf2 : Fr [r] w1 w2) : PlayedTo w g r B k w2 S' T' := by
  have hr1 := h.ref.fr hf1 (fun x hx => h.ag.ref h.ref x hx)
  have hnr : ∀ x ∈ B', x ∉ [r] := fun x hx hm => by
    obtain rfl : x = r := by simpa using hm
    exact ha.ref hr1 x List.mem_cons_self hx
  refine ⟨⟨B', k', ⟨ha.fr hf2 hnr, hr⟩, hb, fun x hx => ?_⟩, (hf1.mono (T := r :: B) (fun x hx => Or.inl (List.mem_cons_of_mem _ hx))).trans hf2 (fun x hx => Or.inl (by
    obtain rfl : x = r := by simpa using hx
    exact List.mem_cons_self))⟩
  rcases hn x hx with h1 | h1
  · exact Or.inl h1
  · exact Or.inr (Nat.le_trans hf1.size h1)

theorem wakes_any (w : World) : Calls Try.prog 12 #[] w fun v w' => v = .returned (.bool true) ∧ Fr [] w w' := by
  go_enter Try.func12, Try.ntmps12
  go_wp2_with (go_at_call 11; refine (new_any _).mono ?_; rintro v w1 ⟨g, B, rfl, ha, hb, hf⟩)
  refine (set_any ha (by decide) (by decide) 9).mono ?_
  rintro v w2 ⟨rfl, B2, b2, ha2, hb2, hf2⟩
  have HA2 := Lib.hid ha2
  have F2 : Fr [] w w2 := hf.trans hf2 (fun x hx => Or.inr (hb x hx))
  have HB2 : Hid (∀ x ∈ B2, w.heap.size ≤ x) := Lib.hid (fun x hx => by
    rcases hb2 x hx with h | h
    · exact hb x h
    · exact Nat.le_trans hf.size h)
  clear ha ha2 hb hb2 hf hf2
  go_wp2_with fail
  refine (set_any HA2.out (by decide) (by decide) 4).mono ?_
  rintro v w3 ⟨rfl, B3, b3, ha3, hb3, hf3⟩
  have HA3 := Lib.hid ha3
  have F3 := F2.trans hf3 (fun x hx => Or.inr (HB2.out x hx))
  have hs : setS (setS [] ⟨b2, 3, 9, 0 + 1⟩) ⟨b3, 5, 4, 0 + 1 + 1⟩ = [⟨b2, 3, 9, 1⟩, ⟨b3, 5, 4, 2⟩] := rfl
  have hQ : Ord (setS (setS [] ⟨b2, 3, 9, ((0 : Nat) : Int) + 1⟩) ⟨b3, 5, 4, ((0 + 1 : Nat) : Int) + 1⟩) [⟨b3, 5, 4, 2⟩, ⟨b2, 3, 9, 1⟩] := ⟨List.Perm.swap _ _ _, by simp [Ent.lt]⟩
  have HQ := Lib.hid hQ
  clear ha3 hb3 hf3 hs hQ
  go_wp2_with (go_at_call 17; refine (first_any HA3.out HQ.out).mono ?_; rintro v w4 ⟨rfl, m, rfl⟩; unfold firstV; have HL := Lib.hid (len_any (HA3.out.fr ((Fr.refl [] w3).drewN m) (by simp))))
  all_goals
    refine HL.out.mono ?_
    rintro v w5 ⟨rfl, rfl⟩
    go_wp2_with fail
    go_ret
    exact ⟨rfl, F3.drewN m⟩
end Go.Proofs.Ytjdkdakepomhdaa
