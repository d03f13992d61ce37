/- Package agenda: Due. -/
import Derived.Test.YtjdkdakepomhdaaAgS
namespace Go.Proofs.Ytjdkdakepomhdaa
open Go.RowKit

/-- The entries in their order. -/
structure Ord (S Q : List Ent) : Prop where
  perm : Q.Perm S
  ord : Q.Pairwise Ent.lt
def idV (e : Ent) : Value := .int .i64 e.id
def dueL (Q : List Ent) (now most : Int) : List Ent := (Q.takeWhile (fun e => decide (e.tm ≤ now))).take most.toNat
/-- What is left behind j. -/
def leftS (S Q : List Ent) (j : Nat) : List Ent := S.filter (fun e => decide (e ∈ Q.drop j))

theorem leftS_zero {S Q : List Ent} (h : Q.Perm S) : leftS S Q 0 = S := by
  unfold leftS
  rw [List.filter_eq_self]
  intro e he
  simpa using h.mem_iff.2 he
theorem mem_leftS {S Q : List Ent} (h : Q.Perm S) {j : Nat} {e : Ent} : e ∈ leftS S Q j ↔ e ∈ Q.drop j := by
  unfold leftS
  rw [List.mem_filter, decide_eq_true_eq]
  exact ⟨fun h1 => h1.2, fun h1 => ⟨h.mem_iff.1 (List.mem_of_mem_drop h1), h1⟩⟩
theorem leftS_next {S Q : List Ent} (h : Q.Perm S) (hn : (S.map Ent.id).Nodup) {j : Nat} {e : Ent} (hj : Q[j]? = some e) : (leftS S Q j).filter (notId e.id) = leftS S Q (j + 1) := by
  obtain ⟨hjl, rfl⟩ := List.getElem?_eq_some_iff.1 hj
  have hq : (Q.map Ent.id).Nodup := (h.map _).nodup_iff.2 hn
  have hd : Q.drop j = Q[j] :: Q.drop (j + 1) := List.drop_eq_getElem_cons hjl
  have hqd : ((Q.drop j).map Ent.id).Nodup := (((List.drop_sublist j Q)).map _).nodup hq
  rw [hd, List.map_cons, List.nodup_cons] at hqd
  unfold leftS
  rw [List.filter_filter]
  refine List.filter_congr (fun f hf => ?_)
  have hm : f ∈ Q.drop j ↔ f = Q[j] ∨ f ∈ Q.drop (j + 1) := by rw [hd]; exact List.mem_cons
  by_cases h1 : f ∈ Q.drop (j + 1)
  · have : f.id ≠ Q[j].id := fun hh => hqd.1 (hh ▸ List.mem_map_of_mem h1)
    have h2 : f ∈ Q.drop j := hm.2 (Or.inr h1)
    rw [decide_eq_true h1, decide_eq_true h2]
    simpa [notId] using this
  · rw [decide_eq_false h1]
    by_cases h2 : f = Q[j]
    · have : notId Q[j].id f = false := by rw [h2]; simp [notId]
      rw [this]; rfl
    · have h3 : ¬ f ∈ Q.drop j := fun hh => (hm.1 hh).elim h2 h1
      rw [decide_eq_false h3, Bool.and_false]
/-- The least of what is left. -/
theorem least_left {S Q : List Ent} (h : Ord S Q) {j : Nat} {e f : Ent} (hj : Q[j]? = some f) (he : e ∈ leftS S Q j) (hm : ∀ x ∈ leftS S Q j, ¬ x.lt e) : e = f := by
  obtain ⟨hjl, rfl⟩ := List.getElem?_eq_some_iff.1 hj
  have hd : Q.drop j = Q[j] :: Q.drop (j + 1) := List.drop_eq_getElem_cons hjl
  have ho : (Q.drop j).Pairwise Ent.lt := h.ord.sublist (List.drop_sublist j Q)
  rw [mem_leftS h.perm, hd] at he
  rw [hd, List.pairwise_cons] at ho
  rcases List.mem_cons.1 he with he | he
  · exact he
  · exact absurd (ho.1 e he) (hm _ ((mem_leftS h.perm).2 (hd ▸ List.mem_cons_self)))
theorem dueL_len (Q : List Ent) (now most : Int) : (dueL Q now most).length ≤ Q.length := by
  unfold dueL
  have h1 := List.length_take_le' most.toNat (Q.takeWhile (fun e => decide (e.tm ≤ now)))
  have h2 := (List.takeWhile_prefix (l := Q) (p := fun e => decide (e.tm ≤ now))).length_le
  omega
theorem dueL_take (Q : List Ent) (now most : Int) : dueL Q now most = Q.take (dueL Q now most).length := by
  have h1 : dueL Q now most <+: Q := (List.take_prefix _ _).trans (List.takeWhile_prefix _)
  exact List.prefix_iff_eq_take.1 h1
theorem takeWhile_imp (p : Ent → Bool) (x : Ent) : ∀ l : List Ent, x ∈ l.takeWhile p → p x = true
  | [], h => by cases h
  | a :: r, h => by
    by_cases ha : p a = true
    · rw [List.takeWhile_cons_of_pos ha] at h
      rcases List.mem_cons.1 h with h | h
      · exact h ▸ ha
      · exact takeWhile_imp p x r h
    · rw [List.takeWhile_cons_of_neg ha] at h; cases h
/-- Where it ends. -/
theorem dueL_stop (now most : Int) (Q : List Ent) : most.toNat ≤ (dueL Q now most).length ∨ Q[(dueL Q now most).length]? = none ∨ ∃ e, Q[(dueL Q now most).length]? = some e ∧ now < e.tm := by
  unfold dueL
  rw [List.length_take]
  by_cases h : most.toNat ≤ (Q.takeWhile (fun e => decide (e.tm ≤ now))).length
  · left; omega
  · right
    rw [Nat.min_eq_right (by omega)]
    clear h
    induction Q with
    | nil => left; rfl
    | cons a r ih =>
      by_cases h1 : a.tm ≤ now
      · rw [List.takeWhile_cons_of_pos (by simpa using h1)]; exact ih
      · rw [List.takeWhile_cons_of_neg (by simpa using h1)]
        exact Or.inr ⟨a, rfl, by omega⟩
theorem dueL_go {Q : List Ent} {now most : Int} {j : Nat} (hj : j < (dueL Q now most).length) : (j : Int) < most ∧ ∃ e, Q[j]? = some e ∧ e.tm ≤ now := by
  have h1 : (dueL Q now most).length ≤ most.toNat := by unfold dueL; exact List.length_take_le _ _
  refine ⟨by omega, (dueL Q now most)[j], ?_, ?_⟩
  · have h2 := dueL_take Q now most
    have h3 : (dueL Q now most)[j]? = Q[j]? := by
      conv => lhs; rw [h2]
      rw [List.getElem?_take, if_pos hj]
    rw [← h3]; exact List.getElem?_eq_getElem hj
  · have h4 : (dueL Q now most)[j] ∈ Q.takeWhile (fun e => decide (e.tm ≤ now)) := List.mem_of_mem_take (List.getElem_mem hj)
    exact of_decide_eq_true (takeWhile_imp _ _ _ h4)

theorem Try.infoI : (Try.prog.info? 3).map (fun i => (i.zero, i.size, i.bytes)) = some (some (.int .i64 0), 1, 8) := by kernel_rfl

/-- Due's round. -/
structure DueSt (w : World) (g : Nat) (S Q : List Ent) (T : Nat) (B : List Nat) (j : Nat) (wr : World) (lk : Option Kp) (B' : List Nat) : Prop where
  ag : IsAg wr g (leftS S Q j) T B'
  sub : ∀ x ∈ B', x ∈ B ∨ w.heap.size ≤ x
  fr : Fr B w wr
  ok : kok wr 3 lk
  l : kl lk = (Q.take j).map idV
  new : ∀ x ∈ kg lk, w.heap.size ≤ x
theorem DueSt.drew {w : World} {g : Nat} {S Q : List Ent} {T : Nat} {B : List Nat} {j : Nat} {wr : World} {lk : Option Kp} {B' : List Nat} (h : DueSt w g S Q T B j wr lk B') (m : Nat) : DueSt w g S Q T B j (wr.drewN m) lk B' :=
  ⟨h.ag.fr ((Fr.refl [] _).drewN m) (by simp), h.sub, h.fr.drewN m, h.ok.fr ((Fr.refl [] _).drewN m) (by simp), h.l, h.new⟩
/-- A slice of ints is no part of an agenda. -/
theorem IsAg.ints {w : World} {g : Nat} {S : List Ent} {T : Nat} {B : List Nat} (h : IsAg w g S T B) {lk : Option Kp} (hk : kok w 3 lk) : ∀ x ∈ kg lk, x ∉ B := by
  obtain ⟨m, k, L, h1, h2, h3, h4, rfl⟩ := h.ex
  intro x hx hm
  cases lk with
  | none => cases hx
  | some q =>
    obtain rfl : x = q.g := by simpa [kg] using hx
    have hh := Kp.Lies.heap hk
    rcases List.mem_cons.1 hm with hm | hm
    · rw [hm] at hh; have := h1.obj.symm.trans hh; simp at this
    · rcases List.mem_cons.1 hm with hm | hm
      · obtain ⟨es, c, ho⟩ := h4.obj
        rw [hm] at hh; have := ho.symm.trans hh; simp at this
      · rcases List.mem_append.1 hm with hm | hm
        · cases k with
          | none => cases hm
          | some k =>
            have e1 : q.g = k.g := by simpa [kg] using hm
            rw [e1] at hh
            have := (Kp.Lies.heap h1.ok).symm.trans hh; simp at this
        · obtain ⟨e, he, e1⟩ := List.mem_map.1 hm
          obtain ⟨i, hi, rfl⟩ := List.getElem_of_mem he
          have h5 := h1.ents i _ (List.getElem?_eq_getElem hi)
          unfold Ent.Lies at h5
          rw [e1] at h5
          have := h5.symm.trans hh; simp at this

set_option maxRecDepth 100000 in
set_option maxHeartbeats 2000000 in
/-- Due(now, most) -/
theorem due_any {w : World} {g : Nat} {S Q : List Ent} {T : Nat} {B : List Nat} (h : IsAg w g S T B) (hT : T < 5000) (hQ : Ord S Q) (now most : Int) : Calls Try.prog 14 #[.pointer (some ⟨g, 0, none⟩), .int .i64 now, .int .i64 most] w fun v w' =>
    ∃ lk B', v = .returned (kval lk) ∧ DueSt w g S Q T B (dueL Q now most).length w' lk B' := by
  obtain ⟨ii, hii, hz0, hz1, hz2⟩ := info_parts Try.infoI
  have HQ := Lib.hid hQ
  have HQN : Hid (Q.length < 5000) := Lib.hid (by have := h.size; have := hQ.perm.length_eq; omega)
  obtain ⟨N, HN⟩ : ∃ N, Hid ((dueL Q now most).length = N) := ⟨_, Lib.hid rfl⟩
  have HS0 : Hid (DueSt w g S Q T B 0 w none B) := Lib.hid ⟨by rw [leftS_zero hQ.perm]; exact h, fun x hx => Or.inl hx, Fr.refl _ _, trivial, rfl, by simp [kg]⟩
  have HI := Lib.hid h.ids
  have HW := Lib.hid h.wf
  rw [HN.out]
  clear h hQ
  go_enter Try.func14, Try.ntmps14
  go_wp2_with fail
  go_loopg [7] N (fun left s7 wr => ∃ (j : Nat) (lk : Option Kp) (B' : List Nat), N - j = left ∧ s7 = kval lk ∧ j ≤ N ∧ Hid (DueSt w g S Q T B j wr lk B'))
  case atStart => exact ⟨0, none, B, rfl, rfl, Nat.zero_le _, HS0⟩
  case round =>
    obtain ⟨j, lk, B', rfl, rfl, hjN, HD⟩ := hrel
    have hlen : (kl lk).length = j := by
      have h1 := dueL_len Q now most
      rw [HD.out.l, List.length_map, List.length_take, Nat.min_eq_left (by rw [HN.out] at h1; omega)]
    obtain ⟨kp, kn, kc, hkv⟩ := kval_open lk
    have hkn : kn = j := by
      rw [← hlen]; cases lk <;> cases hkv <;> rfl
    subst hkn
    have HKV := Lib.hid hkv
    have HLEN := Lib.hid hlen
    rw [hkv]
    clear hkv hlen
    by_cases hj : kn < N
    · obtain ⟨h1, e, h2, h3⟩ := dueL_go (Q := Q) (now := now) (most := most) (j := kn) (by rw [HN.out]; exact hj)
      have g1 : decide ((kn : Int) < most) = true := by simpa using h1
      have g2 : decide (now < e.tm) = false := by simp; omega
      have HE := Lib.hid h2
      have hne : leftS S Q kn ≠ [] := fun hh => by
        have : e ∈ leftS S Q kn := (mem_leftS HQ.out.perm).2 (List.mem_of_getElem? (i := 0) (by rw [List.getElem?_drop]; exact h2))
        rw [hh] at this; cases this
      have hel : e ∈ leftS S Q kn := (mem_leftS HQ.out.perm).2 (List.mem_of_getElem? (i := 0) (by rw [List.getElem?_drop]; exact h2))
      have HFC := Lib.hid (first_some HD.out.ag hne)
      have HEL := Lib.hid hel
      clear h1 h2 h3 hne hel
      go_wp2_with (first | (go_at_call 17; refine HFC.out.mono ?_; rintro v w1 ⟨e1, m, hm1, hm2, rfl, rfl⟩; obtain rfl := least_left HQ.out HE.out hm1 hm2; have HD1 := Lib.hid (HD.out.drew m); clear hm1 hm2) | (go_at_call 25; refine (drop_any HD1.out.ag (HD1.out.ag.wf _ HEL.out)).mono ?_; rw [mapOf_some HD1.out.ag.ids HEL.out]; rintro v w2 ⟨rfl, B2, ha2, hb2, hf2⟩; rw [leftS_next HQ.out.perm HI.out HE.out] at ha2; have HA2 := Lib.hid ha2; have HB2 := Lib.hid hb2; have HF2 := Lib.hid hf2; clear ha2 hb2 hf2) | (at_builtin; refine wpList_app rfl _ _ 40 rfl 3 ii (.int .i64 0) 8 Try.underlying40 hii hz0 hz1 hz2 rfl lk HKV.out.symm ?_ _ 1 1 rfl [idV e1] rfl ?_ ?_ ?_ ?_ ?_))
      · exact (HD1.out.ok.fr HF2.out (HD1.out.ag.ints HD1.out.ok)).fr ((Fr.refl [] _).alloc _) (by simp)
      · exact cells_new1 _ _ _
      · intro v hv; rw [List.mem_singleton.1 hv]; rfl
      · have := HQN.out; have := HLEN.out; have := dueL_len Q now most; have := HN.out; omega
      · have := HQN.out; have := HLEN.out; have := dueL_len Q now most; have := HN.out; unfold maxLen; omega
      intro v' w3 hA
      obtain ⟨lk', rfl, hk', hl', hg'⟩ := hA.next ((HD1.out.ok.fr HF2.out (HD1.out.ag.ints HD1.out.ok)).fr ((Fr.refl [] _).alloc _) (by simp))
      have F3 : Fr (kg lk) w2 w3 := (((Fr.refl [] w2).alloc _).mono (T := kg lk) (by simp)).trans hA.fr (fun x hx => Or.inl hx)
      have hsz1 : w.heap.size ≤ w2.heap.size := Nat.le_trans HD1.out.fr.size HF2.out.size
      have hD : DueSt w g S Q T B (kn + 1) w3 lk' B2 := by
        refine ⟨HA2.out.fr F3 (fun x hx hm => HA2.out.ints (HD1.out.ok.fr HF2.out (HD1.out.ag.ints HD1.out.ok)) x hm hx), fun x hx => ?_, ?_, hk', ?_, fun x hx => ?_⟩
        · rcases HB2.out x hx with h1 | h1
          · exact HD1.out.sub x h1
          · exact Or.inr (Nat.le_trans HD1.out.fr.size h1)
        · exact (HD1.out.fr.trans HF2.out HD1.out.sub).trans F3 (fun x hx => Or.inr (HD1.out.new x hx))
        · rw [hl', HD1.out.l, List.take_add_one, HE.out]; simp
        · rcases hg' x hx with h1 | h1
          · exact HD1.out.new x h1
          · rw [World.size_alloc] at h1; omega
      have HD' := Lib.hid hD
      clear hA hD hk' hl' hg' F3
      go_wp2_with fail
      go_roundg (N - (kn + 1))
      case rel => exact ⟨kn + 1, lk', B2, rfl, rfl, by omega, HD'⟩
      case measure => omega
    · obtain rfl : kn = N := by omega
      rcases dueL_stop now most Q with h1 | h1 | ⟨e, h1, h2⟩
      · rw [HN.out] at h1
        have g1 : decide ((kn : Int) < most) = false := by simp; omega
        go_wp2_with fail
        go_ret
        exact ⟨lk, B', by rw [HKV.out]; rfl, HD.out⟩
      · rw [HN.out] at h1
        have hnil : leftS S Q kn = [] := by
          cases hh : leftS S Q kn with
          | nil => rfl
          | cons a r =>
            have h2 : a ∈ leftS S Q kn := by rw [hh]; exact List.mem_cons_self
            rw [mem_leftS HQ.out.perm, List.drop_eq_nil_iff.2 (List.getElem?_eq_none_iff.1 h1)] at h2
            cases h2
        have hag := HD.out.ag
        rw [hnil] at hag
        have HFC := Lib.hid (first_nil hag)
        clear hag hnil h1
        by_cases h3 : (kn : Int) < most
        · have g1 : decide ((kn : Int) < most) = true := by simpa using h3
          go_wp2_with (go_at_call 17; refine HFC.out.mono ?_; rintro v w1 ⟨rfl, rfl⟩)
          go_ret
          exact ⟨lk, B', by rw [HKV.out]; rfl, HD.out⟩
        · have g1 : decide ((kn : Int) < most) = false := by simpa using h3
          go_wp2_with fail
          go_ret
          exact ⟨lk, by rw [HKV.out]; rfl, B', HD.out⟩
      · rw [HN.out] at h1
        have g2 : decide (now < e.tm) = true := by simpa using h2
        have hel : e ∈ leftS S Q kn := (mem_leftS HQ.out.perm).2 (List.mem_of_getElem? (i := 0) (by rw [List.getElem?_drop]; exact h1))
        have HFC := Lib.hid (first_some HD.out.ag (fun hh => by rw [hh] at hel; cases hel))
        have HE := Lib.hid h1
        clear h1 h2 hel
        by_cases h3 : (kn : Int) < most
        · have g1 : decide ((kn : Int) < most) = true := by simpa using h3
          go_wp2_with (go_at_call 17; refine HFC.out.mono ?_; rintro v w1 ⟨e1, m, hm1, hm2, rfl, rfl⟩; obtain rfl := least_left HQ.out HE.out hm1 hm2)
          go_ret
          exact ⟨lk, B', by rw [HKV.out]; rfl, HD.out.drew _⟩
        · have g1 : decide ((kn : Int) < most) = false := by simpa using h3
          go_wp2_with fail
          go_ret
          exact ⟨lk, by rw [HKV.out]; rfl, B', HD.out⟩
end Go.Proofs.Ytjdkdakepomhdaa
