/- Package agenda: Pop and Push of the row. -/
import Derived.Test.YtjdkdakepomhdaaAgB2
import Derived.Test.YtjdkdakepomhdaaBook2
namespace Go.Proofs.Ytjdkdakepomhdaa
open Go.RowKit

theorem AgRow.pop {w : World} {g m : Nat} {T : Int} {q : Kp} {L : List Ent} {e : Ent} (h : AgRow w g m T (some q) (L ++ [e])) :
    AgRow (w.setCell ⟨g, 0, none⟩ (.slice (some ⟨q.g, q.pre.length, none⟩) L.length (q.l.length + q.spare.length))) g m T (some ⟨q.g, q.pre, L.map Ent.ptr, e.ptr :: q.spare, q.post⟩) L := by
  have hq : q.Lies w 71 := h.ok
  have hql : q.l = L.map Ent.ptr ++ [e.ptr] := by have := h.l; rw [List.map_append] at this; exact this
  have hcap := hq.capLe
  have hgq : q.g ≠ g := fun e => h.g_row (by simp [rowB, kg, e])
  have hF : Fr [g] w (w.setCell ⟨g, 0, none⟩ (.slice (some ⟨q.g, q.pre.length, none⟩) L.length (q.l.length + q.spare.length))) := (Fr.refl _ _).set (by simp) _
  refine ⟨?_, ⟨?_, ?_⟩, rfl, ?_, ?_, ?_⟩
  · have := blk_set h.obj 0 (.slice (some ⟨q.g, q.pre.length, none⟩) L.length (q.l.length + q.spare.length))
    rw [this, show kval (some ⟨q.g, q.pre, L.map Ent.ptr, e.ptr :: q.spare, q.post⟩) = .slice (some ⟨q.g, q.pre.length, none⟩) L.length (q.l.length + q.spare.length) by
      simp only [kval, Kp.val, List.length_map, List.length_cons, hql, List.length_append, List.length_nil]; congr 1; omega]
    rfl
  · have e1 : (Kp.all ⟨q.g, q.pre, L.map Ent.ptr, e.ptr :: q.spare, q.post⟩) = q.all := by simp [Kp.all, hql]
    rw [e1]
    exact hF.heap hq.heap (by simpa using hgq)
  · rw [hql] at hcap; simp at hcap ⊢; omega
  · intro i x hi
    have h1 := h.ents i x (by rw [List.getElem?_append_left (List.getElem?_eq_some_iff.1 hi).1]; exact hi)
    exact hF.heap h1 (by
      simp only [List.mem_cons, List.not_mem_nil, or_false]
      intro e1
      exact h.g_row (e1 ▸ List.mem_append_right _ (List.mem_map_of_mem (List.mem_append_left _ (List.mem_of_getElem? hi)))))
  · have := h.nd; rw [List.map_append] at this; exact (List.nodup_append.1 this).1
  · have := h.len; simp at this; omega

/-- r.Pop() -/
theorem rpop_any {w : World} {g m : Nat} {T : Int} {k : Option Kp} {L : List Ent} {e : Ent} (h : AgRow w g m T k (L ++ [e])) :
    Calls Try.prog 88 #[.pointer (some ⟨g, 0, none⟩)] w fun x w' => x = .returned (.iface 71 e.ptr) ∧ ∃ k', kg k' = kg k ∧ AgRow w' g m T k' L ∧ Fr [g] w w' := by
  obtain ⟨q, rfl, hq, hql⟩ := h.holds (by simp)
  have hn : q.l.length = L.length + 1 := by rw [hql]; simp
  have hlen := h.len
  have c0 := h.cell0
  have f0 := h.free 0
  have ce := hq.cellAt L.length e.ptr (by rw [hql]; simp)
  have hp := h.pop
  have hkv : kval (some q) = .slice (some ⟨q.g, q.pre.length, none⟩) (L.length + 1) (L.length + 1 + q.spare.length) := by rw [← hn]; rfl
  rw [hkv] at c0
  rw [hn] at hp
  unfold Ent.ptr at ce hp ⊢
  have l1 : L.length < 100000 := by simp at hlen; omega
  have i1 : ¬ ((L.length : Int) < 0) := by omega
  have i2 : (L.length : Int) < (L.length + 1 : Nat) := by omega
  clear h hq hql hn hlen hkv
  go_enter Try.func88, Try.ntmps88
  go_wp2_with fail
  go_ret
  exact ⟨rfl, _, by rfl, hp, (Fr.refl _ _).set (by simp) _⟩


theorem AgRow.push {w w' : World} {g m : Nat} {T : Int} {k k' : Option Kp} {L : List Ent} {e : Ent} {S : List Nat} (h : AgRow w g m T k L) (hL : L.length < 100000) (hS : ∀ x ∈ S, x = g ∨ x = e.blk ∨ x ∈ kg k ∨ w.heap.size ≤ x) (hf : Fr S w w') (hm : w'.heap[g]? = some (.cells #[kval k', .map (some m), .int .i64 T] 70 (0, 0)))
    (hk : kok w' 71 k') (hl : kl k' = L.map Ent.ptr ++ [e.ptr]) (he : e.Lies w' L.length) (hn : e.blk ∉ L.map Ent.blk) : AgRow w' g m T k' (L ++ [e]) := by
  refine ⟨hm, hk, by rw [hl]; simp, ?_, ?_, by simp; omega⟩
  · intro i x hi
    by_cases h1 : i < L.length
    · rw [List.getElem?_append_left h1] at hi
      have hx := h.ents i x hi
      have hxm : x ∈ L := List.mem_of_getElem? hi
      refine hf.heap hx (fun hm => ?_)
      rcases hS _ hm with h2 | h2 | h2 | h2
      · exact h.g_row (h2 ▸ List.mem_append_right _ (List.mem_map_of_mem hxm))
      · exact hn (h2 ▸ List.mem_map_of_mem hxm)
      · exact h.apart x hxm h2
      · have := lt_of_heap hx; omega
    · rw [List.getElem?_append_right (by omega)] at hi
      have h0 : i = L.length := by
        have := (List.getElem?_eq_some_iff.1 hi).1
        simp at this; omega
      subst h0
      simp at hi
      subst hi
      exact he
  · rw [List.map_append, List.nodup_append]
    exact ⟨h.nd, by simp, fun a ha b hb => by
      simp at hb; subst hb
      rintro rfl; exact hn ha⟩

theorem Try.infoE : (Try.prog.info? 71).map (fun i => (i.zero, i.size, i.bytes)) = some (some (.pointer none), 1, 8) := by kernel_rfl

theorem Try.assertE (w : World) (a : Addr) : (Instr.typeAssert (.iface 71 (.pointer (some a))) 20 71 true).run Try.prog w = .ok (.tuple #[.pointer (some a), .bool true]) w := by kernel_rfl

set_option maxRecDepth 100000 in
/-- r.Push(e) -/
theorem rpush_any {w : World} {g m : Nat} {T : Int} {k : Option Kp} {L : List Ent} {e : Ent} {p : Int} (h : AgRow w g m T k L) (hL : L.length < 1000) (he : e.Lies w p) (hn : e.blk ∉ L.map Ent.blk) :
    Calls Try.prog 89 #[.pointer (some ⟨g, 0, none⟩), .iface 71 e.ptr] w fun x w' => x = .returned (.tuple #[]) ∧ ∃ k', (∀ x ∈ kg k', x ∈ kg k ∨ w.heap.size ≤ x) ∧ AgRow w' g m T k' (L ++ [e]) ∧ Fr (g :: e.blk :: kg k) w w' := by
  obtain ⟨ii, hii, hz0, hz1, hz2⟩ := info_parts Try.infoE
  have c0 := h.cell0
  have f0 := h.free 0
  have f3 := blk_free he 3
  have c3 := he.c3
  have hlen := h.klen
  have heg : e.blk ≠ g := fun e1 => by have h2 : w.heap[e.blk]? = _ := he; rw [e1] at h2; have := h.obj.symm.trans h2; simp [Ent.cells] at this
  have hek : ∀ x ∈ kg k, x ≠ e.blk := fun x hx e1 => by
    cases k with
    | none => cases hx
    | some q =>
      obtain rfl : x = q.g := by simpa [kg] using hx
      have h1 := (Kp.Lies.heap h.ok).symm
      rw [e1] at h1
      have := h1.trans he
      simp [Ent.cells] at this
  obtain ⟨kp, kn, kc, hkv⟩ : ∃ p n c, kval k = .slice p n c := ⟨_, _, _, kval_eq k⟩
  have hkn : kn = L.length := by
    rw [← hlen]
    cases k with
    | none => cases hkv; rfl
    | some q => cases hkv; rfl
  subst hkn
  rw [hkv] at c0
  have HKV := Lib.hid hkv
  have HH := Lib.hid h
  have HE := Lib.hid he
  have HEK := Lib.hid hek
  have HLEN := Lib.hid hlen
  have F3 : Fr [e.blk] w (w.setCell ⟨e.blk, 3, none⟩ (.int .i64 L.length)) := (Fr.refl _ _).set (by simp) _
  have HF3 := Lib.hid F3
  clear hkv h he hek hlen F3
  have hta := Try.assertE
  unfold Ent.ptr
  go_enter Try.func89, Try.ntmps89
  go_wp2_with (at_builtin; refine wpList_app rfl _ _ 68 rfl 71 ii (.pointer none) 8 Try.underlying68 hii hz0 hz1 hz2 rfl k HKV.out.symm ?_ _ 1 1 rfl [.pointer (some ⟨e.blk, 0, none⟩)] rfl ?_ ?_ ?_ ?_ ?_)
  · exact HH.out.ok.fr (HF3.out.alloc _) (by simpa using HEK.out)
  · have h := cells_new1 (w.setCell ⟨e.blk, 3, none⟩ (.int .i64 L.length)) 71 (.pointer (some ⟨e.blk, 0, none⟩))
    rw [show (w.setCell ⟨e.blk, 3, none⟩ (.int .i64 L.length)).heap.size = w.heap.size by simp [World.setCell]] at h
    exact h
  · intro v hv; rw [List.mem_singleton.1 hv]; rfl
  · rw [HLEN.out]; omega
  · rw [HLEN.out]; unfold maxLen; omega
  intro v' w' hA
  obtain ⟨k', rfl, hk', hkl', hkg'⟩ := hA.next (HH.out.ok.fr (HF3.out.alloc _) (by simpa using HEK.out))
  have FA : Fr (e.blk :: kg k) w w' := ((HF3.out.alloc _).mono (by simp)).trans hA.fr (fun x hx => Or.inl (List.mem_cons_of_mem _ hx))
  have hgn : g ∉ e.blk :: kg k := by
    intro hm
    rcases List.mem_cons.1 hm with h1 | h1
    · exact heg h1.symm
    · exact HH.out.g_row (List.mem_append_left _ h1)
  have hob := FA.heap HH.out.obj hgn
  have c0' := FA.cell c0 hgn
  have f0' : w'.frozen? ⟨g, 0, none⟩ = false := blk_free hob 0
  have hel : e.Lies w' L.length := by
    have h1 : e.Lies (w.setCell ⟨e.blk, 3, none⟩ (.int .i64 L.length)) L.length := blk_set HE.out 3 _
    exact hA.fr.heap (blk_alloc h1 _) (fun hm => HEK.out _ hm rfl)
  obtain ⟨lp, ln, lc, hkr⟩ : ∃ p n c, kval k' = .slice p n c := ⟨_, _, _, kval_eq k'⟩
  have FZ : Fr (g :: e.blk :: kg k) w (w'.setCell ⟨g, 0, none⟩ (kval k')) := (FA.mono (fun x hx => Or.inl (List.mem_cons_of_mem _ hx))).set (p := ⟨g, 0, none⟩) (Or.inl List.mem_cons_self) _
  have hgk' : g ∉ kg k' := fun hm => by
    rcases hkg' g hm with h1 | h1
    · exact HH.out.g_row (List.mem_append_left _ h1)
    · have := lt_of_heap HH.out.obj; simp [World.setCell] at h1; omega
  have hres : AgRow (w'.setCell ⟨g, 0, none⟩ (kval k')) g m T k' (L ++ [e]) := HH.out.push (by omega) (fun x hx => ?_) FZ (blk_set hob 0 _) (hk'.fr ((Fr.refl [g] _).set (by simp) _) (fun x hx hm => by
    obtain rfl : x = g := by simpa using hm
    exact hgk' hx)) (by rw [hkl', HH.out.l]; rfl) (blk_far hel heg _) hn
  rotate_left
  · rcases List.mem_cons.1 hx with h1 | hx
    · exact Or.inl h1
    · rcases List.mem_cons.1 hx with h1 | hx
      · exact Or.inr (Or.inl h1)
      · exact Or.inr (Or.inr (Or.inl hx))
  rw [hkr] at hres FZ ⊢
  have HR := Lib.hid hres
  have HZ := Lib.hid FZ
  have hkg2 : ∀ x ∈ kg k', x ∈ kg k ∨ w.heap.size ≤ x := fun x hx => by
    rcases hkg' x hx with h1 | h1
    · exact Or.inl h1
    · exact Or.inr (by simp [World.setCell] at h1; omega)
  have HG2 := Lib.hid hkg2
  clear hres FZ hkg' hA hkg2 hkr hgk' hel hob hgn FA hk' hkl'
  go_wp2_with fail
  go_end0
  exact ⟨rfl, k', HG2.out, HR.out, HZ.out⟩
end Go.Proofs.Ytjdkdakepomhdaa
