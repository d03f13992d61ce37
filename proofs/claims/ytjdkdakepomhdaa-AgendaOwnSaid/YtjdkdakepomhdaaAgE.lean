/- container/heap over an agenda's row: Fix, Push, Remove. -/
import Derived.Test.YtjdkdakepomhdaaAgD
namespace Go.Proofs.Ytjdkdakepomhdaa
open Go.RowKit

theorem Sift.lenC {w wr : World} {g m : Nat} {T : Int} {k k1 : Option Kp} {L L1 : List Ent} {n : Nat} (h : Sift w g m T k L n wr k1 L1) {p : Option Addr} {l c : Nat} (hkv : kval k = .slice p l c) :
    Calls Try.prog 85 #[.slice p l c] wr fun e w' => e = .returned (.int .i64 L.length) ∧ wr = w' := by
  have := rlen_any h.row
  rw [h.skv, hkv, h.len] at this
  exact this
theorem AgRow.at0 {w : World} {g m : Nat} {T : Int} {k : Option Kp} {L : List Ent} (h : AgRow w g m T k L) {p : Option Addr} {l c : Nat} (hkv : kval k = .slice p l c) : w.cell? ⟨g, 0, none⟩ = some (.slice p l c) := by
  rw [h.cell0, hkv]

set_option maxRecDepth 100000 in
set_option maxHeartbeats 2000000 in
theorem fix_any {w : World} {g m : Nat} {T : Int} {k : Option Kp} {L : List Ent} (h : AgRow w g m T k L) (i : Nat) (hi : i < L.length) (hu : FixF L.length (vw L) i) :
    Calls Try.prog 28 #[.iface 76 (.pointer (some ⟨g, 0, none⟩)), .int .i64 i] w fun e w' => e = .returned (.tuple #[]) ∧ ∃ k' L', Sift w g m T k L L.length w' k' L' ∧ HeapF L.length (vw L') := by
  have HS := Lib.hid (Sift.refl L.length h)
  have HU := Lib.hid hu
  obtain ⟨kp, kn, kc, hkv⟩ := kval_open k
  have HKV := Lib.hid hkv
  have hm := Try.rLen (h.at0 hkv)
  have HD := Lib.hid (down_any h L.length i (Nat.le_refl _) hi hu)
  clear h hu hkv
  go_enter Try.func28, Try.ntmps28
  go_wp2_with (first | (go_at_call 85; refine (HS.out.lenC HKV.out).mono ?_; rintro e w1 ⟨rfl, rfl⟩) | (go_at_call 41; refine HD.out.mono ?_; rintro e w2 ⟨b, rfl, hdn⟩; have HDN := Lib.hid hdn; clear hdn; cases b))
  · obtain ⟨k', L', hs, -, hup⟩ := HDN.out
    refine (up_any hs.row L.length i (Nat.le_of_eq hs.len.symm) hi (hup rfl)).mono ?_
    rintro e w3 ⟨rfl, k3, L3, hs3, hh3⟩
    have HS3 := Lib.hid (hs.trans hs3)
    clear hs hs3 hup
    go_wp2_with fail
    go_end0
    exact ⟨rfl, k3, L3, HS3.out, hh3⟩
  · obtain ⟨k', L', hs, hh, -⟩ := HDN.out
    go_end0
    exact ⟨rfl, k', L', hs, hh rfl⟩

theorem vw_append {L : List Ent} {e : Ent} {t : Nat} (h : t < L.length) : vw (L ++ [e]) t = vw L t := by
  unfold vw; rw [List.getElem?_append_left h]

set_option maxRecDepth 100000 in
set_option maxHeartbeats 2000000 in
theorem push_any {w : World} {g m : Nat} {T : Int} {k : Option Kp} {L : List Ent} {e : Ent} {p : Int} (h : AgRow w g m T k L) (hh : HeapF L.length (vw L)) (hL : L.length < 1000) (he : e.Lies w p) (hn : e.blk ∉ L.map Ent.blk) :
    Calls Try.prog 29 #[.iface 76 (.pointer (some ⟨g, 0, none⟩)), .iface 71 e.ptr] w fun x w' => x = .returned (.tuple #[]) ∧ ∃ k' L', AgRow w' g m T k' L' ∧ L'.Perm (L ++ [e]) ∧ HeapF L'.length (vw L') ∧ Fr (g :: e.blk :: rowB k L) w w' ∧ (∀ x ∈ kg k', x ∈ kg k ∨ w.heap.size ≤ x) := by
  have HP := Lib.hid (rpush_any h hL he hn)
  have HH := Lib.hid hh
  have hm := Try.rPush w g
  have HLT := Lib.hid h.lt
  unfold Ent.ptr at HP ⊢
  clear h hh he hn
  go_enter Try.func29, Try.ntmps29
  go_wp2_with (first | (go_at_call 89; refine HP.out.mono ?_; rintro x w1 ⟨rfl, k1, hg1, hr1, hf1⟩; obtain ⟨kp, kn, kc, hkv⟩ := kval_open k1; have hm1 := Try.rLen (hr1.at0 hkv); have hl1 := (Sift.refl 0 hr1).lenC hkv; have HL1 := Lib.hid hl1; have HR1 := Lib.hid hr1; have HF1 := Lib.hid hf1; have HG1 := Lib.hid hg1; have hlen : wrap64 (((L ++ [e]).length : Int) - 1) = L.length := (by rw [IntWalk.wrap64_in] <;> simp <;> omega); clear hl1 hr1 hf1 hg1 hkv) | (go_at_call 85; refine HL1.out.mono ?_; rintro e w1 ⟨rfl, rfl⟩))
  refine (up_any HR1.out (L ++ [e]).length L.length (Nat.le_refl _) (by simp) ?_).mono ?_
  · rw [List.length_append]
    exact heap_push HH.out (fun t ht => vw_append ht)
  rintro x w2 ⟨rfl, k2, L2, hs2, hh2⟩
  have HS2 := Lib.hid hs2
  clear hs2
  go_wp2_with fail
  go_end0
  refine ⟨rfl, k2, L2, HS2.out.row, HS2.out.perm, by rw [HS2.out.len]; exact hh2, (HF1.out.mono (T := g :: e.blk :: rowB k L) (fun x hx => ?_)).trans HS2.out.fr (fun x hx => ?_), fun x hx => HG1.out x (HS2.out.skg ▸ hx)⟩
  · left
    rcases List.mem_cons.1 hx with rfl | hx
    · exact List.mem_cons_self
    · rcases List.mem_cons.1 hx with rfl | hx
      · exact List.mem_cons_of_mem _ List.mem_cons_self
      · exact List.mem_cons_of_mem _ (List.mem_cons_of_mem _ (List.mem_append_left _ hx))
  rcases List.mem_append.1 hx with hx | hx
  · rcases HG1.out x hx with h1 | h1
    · exact Or.inl (List.mem_cons_of_mem _ (List.mem_cons_of_mem _ (List.mem_append_left _ h1)))
    · exact Or.inr h1
  · rw [List.map_append] at hx
    rcases List.mem_append.1 hx with h1 | h1
    · exact Or.inl (List.mem_cons_of_mem _ (List.mem_cons_of_mem _ (List.mem_append_right _ h1)))
    · obtain rfl : x = e.blk := by simpa using h1
      exact Or.inl (List.mem_cons_of_mem _ List.mem_cons_self)

theorem last_split {L : List Ent} {n : Nat} {e : Ent} (hn : L.length = n + 1) (he : L[n]? = some e) : L = L.take n ++ [e] := by
  obtain ⟨h1, rfl⟩ := List.getElem?_eq_some_iff.1 he
  rw [List.take_append_getElem h1, List.take_of_length_le (by omega)]

theorem remove_end {w w1 w2 : World} {g m : Nat} {T : Int} {k k1 k2 : Option Kp} {L L1 L2 : List Ent} {n N : Nat} {e : Ent} (h1 : Sift w g m T k L N w1 k1 L1) (h2 : Sift w1 g m T k1 L1 n w2 k2 L2) (hh : HeapF n (vw L2)) (hn : L.length = n + 1) (he : L1[n]? = some e) :
    Calls Try.prog 88 #[.pointer (some ⟨g, 0, none⟩)] w2 fun x w' => x = .returned (.iface 71 e.ptr) ∧ ∃ k' L', AgRow w' g m T k' L' ∧ (L' ++ [e]).Perm L ∧ HeapF L'.length (vw L') ∧ Fr (g :: rowB k L) w w' ∧ kg k' = kg k := by
  have hl2 : L2.length = n + 1 := by rw [h2.len, h1.len, hn]
  have hs := last_split hl2 ((h2.out n (Nat.le_refl _)).trans he)
  have hr := h2.row
  rw [hs] at hr
  refine (rpop_any hr).mono ?_
  rintro x w3 ⟨rfl, k3, hk3, hr3, hf3⟩
  refine ⟨rfl, k3, _, hr3, ?_, ?_, ?_, hk3.trans (h2.skg.trans h1.skg)⟩
  · rw [← hs]; exact h2.perm.trans h1.perm
  · rw [List.length_take, Nat.min_eq_left (by omega)]
    refine hh.congr (fun t ht => ?_)
    unfold vw; rw [List.getElem?_take, if_pos ht]
  · have f1 : Fr (rowB k L) w w2 := h1.fr.trans h2.fr (fun x hx => Or.inl ((rowB_perm h1.skg h1.perm x).1 hx))
    exact (f1.mono (fun x hx => Or.inl (List.mem_cons_of_mem _ hx))).trans hf3 (fun x hx => Or.inl (by
      obtain rfl : x = g := by simpa using hx
      exact List.mem_cons_self))

set_option maxRecDepth 100000 in
set_option maxHeartbeats 2000000 in
theorem remove_any {w : World} {g m : Nat} {T : Int} {k : Option Kp} {L : List Ent} {e : Ent} (h : AgRow w g m T k L) (hh : HeapF L.length (vw L)) (i : Nat) (hi : L[i]? = some e) :
    Calls Try.prog 39 #[.iface 76 (.pointer (some ⟨g, 0, none⟩)), .int .i64 i] w fun x w' => (∃ v, x = .returned v) ∧ ∃ k' L', AgRow w' g m T k' L' ∧ (L' ++ [e]).Perm L ∧ HeapF L'.length (vw L') ∧ Fr (g :: rowB k L) w w' ∧ kg k' = kg k := by
  have hii := (List.getElem?_eq_some_iff.1 hi).1
  obtain ⟨n, hn⟩ : ∃ n, L.length = n + 1 := ⟨L.length - 1, by omega⟩
  have hlen := h.len
  have hw : wrap64 ((L.length : Int) - 1) = n := by rw [hn, IntWalk.wrap64_in] <;> omega
  have HN := Lib.hid hn
  obtain ⟨kp, kn, kc, hkv⟩ := kval_open k
  have HKV := Lib.hid hkv
  have hm := Try.rLen (h.at0 hkv)
  have hp := Try.rPop
  by_cases hin : i = n
  · subst hin
    have hb : ((i : Int) != i) = false := by simp
    have hs : L = L.take i ++ [e] := last_split hn hi
    have HL := Lib.hid ((Sift.refl 0 h).lenC hkv)
    have h' := h
    rw [hs] at h'
    have HP := Lib.hid (rpop_any h')
    have HF : HeapF (L.take i).length (vw (L.take i)) := by
      rw [List.length_take, Nat.min_eq_left (by omega)]
      refine (hh.mono (by omega)).congr (fun t ht => ?_)
      unfold vw; rw [List.getElem?_take, if_pos ht]
    have HFF := Lib.hid HF
    have HSS := Lib.hid hs
    clear h h' hkv hs HF hh hi
    go_enter Try.func39, Try.ntmps39
    go_wp2_with (first | (go_at_call 85; refine HL.out.mono ?_; rintro e w1 ⟨rfl, rfl⟩) | (go_at_call 88; refine HP.out.mono ?_; rintro x w2 ⟨rfl, k2, hk2, hr2, hf2⟩; have HR2 := Lib.hid hr2; have HF2 := Lib.hid hf2; clear hr2 hf2))
    go_ret
    refine ⟨⟨_, rfl⟩, k2, _, HR2.out, by rw [← HSS.out], HFF.out, HF2.out.mono (fun x hx => Or.inl ?_), hk2⟩
    obtain rfl : x = g := by simpa using hx
    exact List.mem_cons_self
  · have hb : ((n : Int) != i) = true := by simp; omega
    have hi2 : i < n := by omega
    obtain ⟨b, hbn⟩ : ∃ b, L[n]? = some b := ⟨_, List.getElem?_eq_getElem (by omega)⟩
    have HS := Lib.hid (Sift.refl L.length h)
    have HH := Lib.hid hh
    have HI := Lib.hid hi
    have HB := Lib.hid hbn
    have hm2 := Try.rSwap (h.at0 hkv)
    clear h hh hi hbn hkv
    go_enter Try.func39, Try.ntmps39
    go_wp2_with (first | (go_at_call 85; refine (HS.out.lenC HKV.out).mono ?_; rintro e w1 ⟨rfl, rfl⟩) | (go_at_call 87; refine (HS.out.swaps HKV.out HI.out HB.out hin (by omega) (by omega) _ _ rfl rfl).mono ?_; rintro x w1 ⟨rfl, k1, hs1⟩; have HS1 := Lib.hid hs1; have HX := Lib.hid (heap_fix (i := i) (HH.out.mono (n' := n) (by omega)) hi2 (f' := vw ((L.set i b).set n e)) (fun t ht hti => by unfold vw; rw [swap_out t hti (by omega)])); have HE := Lib.hid (show ((L.set i b).set n e)[n]? = some e by simp [hn]); have HD := Lib.hid (down_any HS1.out.row n i (by have := HS1.out.len; omega) hi2 HX.out); clear hs1) | (go_at_call 41; refine HD.out.mono ?_; rintro x w2 ⟨bb, rfl, hdn⟩; have HDN := Lib.hid hdn; clear hdn; cases bb))
    · obtain ⟨k2, L2, hs2, -, hup⟩ := HDN.out
      refine (up_any hs2.row n i (by have := hs2.len; have := HS1.out.len; omega) hi2 (hup rfl)).mono ?_
      rintro x w3 ⟨rfl, k3, L3, hs3, hh3⟩
      have HE3 := Lib.hid (remove_end HS1.out (hs2.trans hs3) hh3 hn HE.out)
      clear hs2 hs3 hup hh3
      go_wp2_with (go_at_call 88; refine HE3.out.mono ?_; rintro x w4 ⟨rfl, hfin⟩; have HFIN := Lib.hid hfin; clear hfin)
      go_ret
      exact ⟨⟨_, rfl⟩, HFIN.out⟩
    · obtain ⟨k2, L2, hs2, hh2, -⟩ := HDN.out
      have HE3 := Lib.hid (remove_end HS1.out hs2 (hh2 rfl) hn HE.out)
      clear hs2 hh2
      refine HE3.out.mono ?_
      rintro x w4 ⟨rfl, hfin⟩
      have HFIN := Lib.hid hfin
      clear hfin
      go_wp2_with fail
      go_ret
      exact ⟨⟨_, rfl⟩, HFIN.out⟩
end Go.Proofs.Ytjdkdakepomhdaa
