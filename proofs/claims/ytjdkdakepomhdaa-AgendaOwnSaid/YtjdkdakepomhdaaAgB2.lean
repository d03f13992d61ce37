import Derived.Test.YtjdkdakepomhdaaAgB
import Derived.RegionTactic
import Derived.ChangeAlike
namespace Go.Proofs.Ytjdkdakepomhdaa
open Go.RowKit

theorem AgRow.blk_ne {w : World} {g m : Nat} {T : Int} {k : Option Kp} {L : List Ent} (h : AgRow w g m T k L) {i j : Nat} {a b : Ent} (hi : L[i]? = some a) (hj : L[j]? = some b) (hne : i ≠ j) : a.blk ≠ b.blk := by
  intro e
  have hii := (List.getElem?_eq_some_iff.1 hi).1
  have h1 : (L.map Ent.blk)[i]? = some a.blk := by rw [List.getElem?_map, hi]; rfl
  have h2 : (L.map Ent.blk)[j]? = some a.blk := by rw [List.getElem?_map, hj, e]; rfl
  have hi' : i < (L.map Ent.blk).length := by simpa using hii
  exact hne ((List.getElem?_inj hi' h.nd).1 (h1.trans h2.symm))

theorem AgRow.same {w w' : World} {g m : Nat} {T : Int} {k : Option Kp} {L : List Ent} (h : AgRow w g m T k L) (e : w'.heap = w.heap) : AgRow w' g m T k L := by
  refine ⟨by rw [e]; exact h.obj, ?_, h.l, fun i x hi => ?_, h.nd, h.len⟩
  · cases k with
    | none => trivial
    | some q => exact ⟨by rw [e]; exact Kp.Lies.heap h.ok, Kp.Lies.capLe h.ok⟩
  · unfold Ent.Lies; rw [e]; exact h.ents i x hi
theorem Fr.same {S : List Nat} {a b c : World} (h : Fr S a b) (e1 : c.heap = b.heap) (e2 : c.os = b.os) (e3 : c.tape = b.tape) (e4 : c.output = b.output) : Fr S a c :=
  ⟨e2.trans h.os, e3.trans h.tape, e4.trans h.output, by rw [e1]; exact h.size, fun k hk hs => by rw [e1]; exact h.block k hk hs⟩

theorem swap_perm {L : List Ent} {i j : Nat} {a b : Ent} (hi : L[i]? = some a) (hj : L[j]? = some b) : ((L.set i b).set j a).Perm L := by
  obtain ⟨h1, rfl⟩ := List.getElem?_eq_some_iff.1 hi
  obtain ⟨h2, rfl⟩ := List.getElem?_eq_some_iff.1 hj
  exact List.set_set_perm h1 h2

/-- Two entries exchanged. -/
theorem AgRow.swap {w : World} {g m : Nat} {T : Int} {q : Kp} {L : List Ent} (h : AgRow w g m T (some q) L) {i j : Nat} {a b : Ent} (hi : L[i]? = some a) (hj : L[j]? = some b) (hne : i ≠ j) :
    AgRow ((((w.setCell ⟨q.g, q.pre.length + i, none⟩ b.ptr).setCell ⟨q.g, q.pre.length + j, none⟩ a.ptr).setCell ⟨b.blk, 3, none⟩ (.int .i64 i)).setCell ⟨a.blk, 3, none⟩ (.int .i64 j)) g m T (some ((q.set i b.ptr).set j a.ptr)) ((L.set i b).set j a) ∧
    Fr (rowB (some q) L) w ((((w.setCell ⟨q.g, q.pre.length + i, none⟩ b.ptr).setCell ⟨q.g, q.pre.length + j, none⟩ a.ptr).setCell ⟨b.blk, 3, none⟩ (.int .i64 i)).setCell ⟨a.blk, 3, none⟩ (.int .i64 j)) := by
  have hii := (List.getElem?_eq_some_iff.1 hi).1
  have hjj := (List.getElem?_eq_some_iff.1 hj).1
  have hq : q.Lies w 71 := h.ok
  have hql : q.l = L.map Ent.ptr := h.l
  have hn : q.l.length = L.length := by rw [hql]; simp
  have n1 : a.blk ≠ q.g := fun e => h.apart a (List.mem_of_getElem? hi) (by simp [kg, e])
  have n2 : b.blk ≠ q.g := fun e => h.apart b (List.mem_of_getElem? hj) (by simp [kg, e])
  have n3 : a.blk ≠ b.blk := h.blk_ne hi hj hne
  have ma : a.blk ∈ rowB (some q) L := List.mem_append_right _ (List.mem_map_of_mem (List.mem_of_getElem? hi))
  have mb : b.blk ∈ rowB (some q) L := List.mem_append_right _ (List.mem_map_of_mem (List.mem_of_getElem? hj))
  have mq : q.g ∈ rowB (some q) L := List.mem_append_left _ (by simp [kg])
  have l1 := hq.set i (by omega) b.ptr
  have l2 := l1.set j (by simp [Kp.set]; omega) a.ptr
  have F0 : Fr [q.g] w ((w.setCell ⟨q.g, q.pre.length + i, none⟩ b.ptr).setCell ⟨q.g, q.pre.length + j, none⟩ a.ptr) := ((Fr.refl _ _).set (by simp) _).set (by simp) _
  have l2' : ((q.set i b.ptr).set j a.ptr).Lies ((w.setCell ⟨q.g, q.pre.length + i, none⟩ b.ptr).setCell ⟨q.g, q.pre.length + j, none⟩ a.ptr) 71 := l2
  generalize (w.setCell ⟨q.g, q.pre.length + i, none⟩ b.ptr).setCell ⟨q.g, q.pre.length + j, none⟩ a.ptr = w1 at F0 l2'
  have F1 : Fr [b.blk, a.blk] w1 ((w1.setCell ⟨b.blk, 3, none⟩ (.int .i64 i)).setCell ⟨a.blk, 3, none⟩ (.int .i64 j)) := ((Fr.refl _ _).set (by simp) _).set (by simp) _
  have F2 : Fr [q.g, b.blk, a.blk] w ((w1.setCell ⟨b.blk, 3, none⟩ (.int .i64 i)).setCell ⟨a.blk, 3, none⟩ (.int .i64 j)) := (F0.mono (by simp)).trans F1 (by simp)
  have hp := swap_perm hi hj
  have F3 : Fr (rowB (some q) L) w ((w1.setCell ⟨b.blk, 3, none⟩ (.int .i64 i)).setCell ⟨a.blk, 3, none⟩ (.int .i64 j)) := F2.mono (fun x hx => by
    left
    simp only [List.mem_cons, List.not_mem_nil, or_false] at hx
    rcases hx with rfl | rfl | rfl <;> assumption)
  refine ⟨⟨?_, ?_, ?_, ?_, ?_, ?_⟩, F3⟩
  · rw [show kval (some ((q.set i b.ptr).set j a.ptr)) = kval (some q) from by simp only [kval, Kp.set_val]]
    exact F3.heap h.obj h.g_row
  · exact Kp.Lies.fr l2' F1 (by simp only [List.mem_cons, List.not_mem_nil, or_false]; rintro (e | e); exact n2 e.symm; exact n1 e.symm)
  · show ((q.l.set i b.ptr).set j a.ptr) = _
    rw [hql, List.map_set, List.map_set]
  · intro t e ht
    have hbL := F0.heap (h.ents j b hj) (by simpa using n2)
    have haL := F0.heap (h.ents i a hi) (by simpa using n1)
    by_cases h1 : t = j
    · subst h1
      obtain rfl : a = e := by rw [List.getElem?_set_self (by simpa using hjj)] at ht; exact Option.some.inj ht
      exact blk_set (blk_far haL n3 _) 3 _
    · rw [List.getElem?_set_ne (Ne.symm h1)] at ht
      by_cases h2 : t = i
      · subst h2
        obtain rfl : b = e := by rw [List.getElem?_set_self hii] at ht; exact Option.some.inj ht
        exact blk_far (blk_set hbL 3 _) n3.symm _
      · rw [List.getElem?_set_ne (Ne.symm h2)] at ht
        have m1 := h.blk_ne ht hi h2
        have m2 := h.blk_ne ht hj h1
        exact F2.heap (h.ents t e ht) (by simp only [List.mem_cons, List.not_mem_nil, or_false]; rintro (e | e | e); exact h.apart _ (List.mem_of_getElem? ht) (by simp [kg, e]); exact m2 e; exact m1 e)
  · exact (hp.map _).nodup_iff.2 h.nd
  · rw [hp.length_eq]; exact h.len

set_option maxHeartbeats 1000000 in
/-- r.Swap(i, j) -/
theorem rswap_any {w : World} {g m : Nat} {T : Int} {k : Option Kp} {L : List Ent} (h : AgRow w g m T k L) (i j : Nat) (a b : Ent) (hi : L[i]? = some a) (hj : L[j]? = some b) (hne : i ≠ j) :
    Calls Try.prog 87 #[kval k, .int .i64 i, .int .i64 j] w fun e w' => e = .returned (.tuple #[]) ∧
      ∃ k', kval k' = kval k ∧ kg k' = kg k ∧ AgRow w' g m T k' ((L.set i b).set j a) ∧ Fr (rowB k L) w w' := by
  have hii := (List.getElem?_eq_some_iff.1 hi).1
  have hjj := (List.getElem?_eq_some_iff.1 hj).1
  obtain ⟨q, rfl, hq, hql⟩ := h.holds (by rintro rfl; simp at hii)
  have ca := hq.cellAt i a.ptr (by rw [hql, List.getElem?_map, hi]; rfl)
  have cb := hq.cellAt j b.ptr (by rw [hql, List.getElem?_map, hj]; rfl)
  have fa := hq.free (q.pre.length + i)
  have fb := hq.free (q.pre.length + j)
  have a3 := (h.ents i a hi).c3
  have b3 := (h.ents j b hj).c3
  have n1 : a.blk ≠ q.g := fun e => h.apart a (List.mem_of_getElem? hi) (by simp [kg, e])
  have n2 : b.blk ≠ q.g := fun e => h.apart b (List.mem_of_getElem? hj) (by simp [kg, e])
  have n3 : a.blk ≠ b.blk := h.blk_ne hi hj hne
  have fa3 := blk_free (h.ents i a hi) 3
  have fb3 := blk_free (h.ents j b hj) 3
  have hn : q.l.length = L.length := by rw [hql]; simp
  have hlen := h.len
  unfold Ent.ptr at ca cb
  rw [show kval (some q) = .slice (some ⟨q.g, q.pre.length, none⟩) L.length (q.l.length + q.spare.length) by rw [← hn]; rfl]
  have i1 : ¬ ((i : Int) < 0) := by omega
  have i2 : (i : Int) < L.length := by omega
  have j1 : ¬ ((j : Int) < 0) := by omega
  have j2 : (j : Int) < L.length := by omega
  have hkv : (Kp.val q) = .slice (some ⟨q.g, q.pre.length, none⟩) L.length (L.length + q.spare.length) := by rw [← hn]; rfl
  rw [hn]
  have hsw := fun (x : Unit) => h.swap hi hj hne
  clear h hq hql hi hj hn hlen
  go_enter Try.func87, Try.ntmps87
  go_wp2_with fail
  go_region
  go_wp2_with fail
  go_region
  go_wp2_with fail
  go_end0
  refine ⟨rfl, some ((q.set i b.ptr).set j a.ptr), ?_, rfl, (hsw ()).1.same rfl, (hsw ()).2.same rfl rfl rfl rfl⟩
  show Kp.val _ = _
  rw [Kp.set_val, Kp.set_val, hkv]
end Go.Proofs.Ytjdkdakepomhdaa
