/- The document's agenda (layer 4): Due. -/
import Derived.Test.YtjdkdakepomhdaaRef04d
namespace Go.Proofs.Ytjdkdakepomhdaa
open Go.RowKit

/-- Due's round. -/
structure RDueSt (w : World) (r : Nat) (k : Option Ks) (S Q : List Ent) (qk : Option Ks) (j : Nat) (wr : World) (lk : Option Kp) (k' : Option Ks) : Prop where
  ref : IsRef wr r k' (leftS S Q j)
  newk : ∀ x ∈ sg k', x ∈ sg k ∨ w.heap.size ≤ x
  es : IsEs wr qk Q
  fr : Fr [r] w wr
  ok : kok wr 3 lk
  l : kl lk = (Q.take j).map idV
  new : ∀ x ∈ kg lk, w.heap.size ≤ x
theorem kok.s {w : World} {lk : Option Kp} {k : Option Ks} {E F : TypeId} {s : Nat} (h : kok w E lk) (h' : sok w F s k) (hne : E ≠ F) : ∀ x ∈ kg lk, x ∉ sg k := by
  intro x hx hm
  cases lk with
  | none => cases hx
  | some q =>
    cases k with
    | none => cases hm
    | some p =>
      obtain rfl : x = q.g := by simpa [kg] using hx
      have e1 : q.g = p.g := by simpa [sg] using hm
      have h1 := Kp.Lies.heap h
      rw [e1] at h1
      have := (Ks.Lies.heap h').symm.trans h1
      simp at this
      exact hne this.2.symm

set_option maxRecDepth 100000 in
set_option maxHeartbeats 2000000 in
/-- Due(now, most) -/
theorem rdue_any {w : World} {r : Nat} {k : Option Ks} {S Q : List Ent} (h : IsRef w r k S) (hS : S.length < 5000) (hn : (S.map Ent.id).Nodup) (ht : S.Pairwise (fun a b => a.turn < b.turn)) (hQ : Ord S Q) (now most : Int) : Calls Try.prog 19 #[.pointer (some ⟨r, 0, none⟩), .int .i64 now, .int .i64 most] w fun v w' =>
    ∃ lk qk k', v = .returned (kval lk) ∧ RDueSt w r k S Q qk (dueL Q now most).length w' lk k' := by
  obtain ⟨ii, hii, hz0, hz1, hz2⟩ := info_parts Try.infoI
  have HA := Lib.hid (rall_any h (by omega) ht)
  have HQ := Lib.hid hQ
  have HN := Lib.hid hn
  have HR := Lib.hid h
  have HQN : Hid (Q.length < 5000) := Lib.hid (by have := hQ.perm.length_eq; omega)
  obtain ⟨N, HNN⟩ : ∃ N, Hid ((dueL Q now most).length = N) := ⟨_, Lib.hid rfl⟩
  rw [HNN.out]
  clear h hn ht hQ
  go_enter Try.func19, Try.ntmps19
  go_wp2_with (go_at_call 23; refine HA.out.mono ?_; rintro v w1 ⟨qk, Q1, rfl, ho, he, hnw, hf⟩; obtain rfl := HQ.out.one ho; have HS0 : Hid (RDueSt w r k S Q1 qk 0 w1 none k) := Lib.hid ⟨(by rw [leftS_zero HQ.out.perm]; exact HR.out.fr hf (by simp)), fun x hx => Or.inl hx, he, hf.mono (by simp), trivial, rfl, by simp [kg]⟩; have HQG : Hid (r ∉ sg qk) := Lib.hid (fun hm => by have h1 := hnw r hm; have h2 := lt_of_heap HR.out.obj; omega); obtain ⟨p, c, hv, hc, -⟩ := he.open; rw [hv]; have HV := Lib.hid hv; clear ho he hnw hf hv hc)
  go_loopg [7, 9] N (fun left s7 s9 wr => ∃ (j : Nat) (lk : Option Kp) (k' : Option Ks), N - j = left ∧ s7 = kval lk ∧ s9 = .int .i64 j ∧ j ≤ N ∧ Hid (RDueSt w r k S Q1 qk j wr lk k'))
  case atStart => exact ⟨0, none, k, rfl, rfl, rfl, Nat.zero_le _, HS0⟩
  case round =>
    obtain ⟨j, lk, k', rfl, rfl, rfl, hjN, HD⟩ := hrel
    have hlen : (kl lk).length = j := by
      have h1 := dueL_len Q1 now most
      rw [HD.out.l, List.length_map, List.length_take, Nat.min_eq_left (by rw [HNN.out] at h1; omega)]
    obtain ⟨kp, kn, kc, hkv⟩ := kval_open lk
    have hkn : kn = j := by
      rw [← hlen]; cases lk <;> cases hkv <;> rfl
    have HKV := Lib.hid hkv
    have HLEN := Lib.hid hlen
    rw [hkv]
    subst hkn
    clear hkv hlen
    obtain ⟨p2, c2, hv2, hc2, hat⟩ := HD.out.es.open
    rw [HV.out] at hv2
    obtain ⟨rfl, rfl⟩ : p = p2 ∧ c = c2 := by injection hv2 with x1 x2 x3; exact ⟨x1, x3⟩
    clear hv2
    have hjb : kn < 5000 := by have := dueL_len Q1 now most; have := HNN.out; have := HQN.out; omega
    by_cases hj : kn < N
    · obtain ⟨h1, e, h2, h3⟩ := dueL_go (Q := Q1) (now := now) (most := most) (j := kn) (by rw [HNN.out]; exact hj)
      have g1 : decide ((kn : Int) < most) = true := by simpa using h1
      have g2 : decide (e.tm ≤ now) = true := by simpa using h3
      have hjl := (List.getElem?_eq_some_iff.1 h2).1
      have g3 : decide ((kn : Int) < Q1.length) = true := by simpa using hjl
      obtain ⟨g, rfl, q0, q1⟩ := hat kn e h2
      have HE := Lib.hid h2
      clear h1 h2 h3 hat hc2
      go_wp2_with (at_builtin; refine wpList_app rfl _ _ 40 rfl 3 ii (.int .i64 0) 8 Try.underlying40 hii hz0 hz1 hz2 rfl lk HKV.out.symm (HD.out.ok.fr ((Fr.refl [] _).alloc _) (by simp)) _ 1 1 rfl [idV e] rfl (cells_new1 _ _ _) (fun v hv => by rw [List.mem_singleton.1 hv]; rfl) (by have := HLEN.out; omega) (by have := HLEN.out; unfold maxLen; omega) ?_)
      intro v' w3 hA
      obtain ⟨lk', rfl, hk', hl', hg'⟩ := hA.next (HD.out.ok.fr ((Fr.refl [] _).alloc _) (by simp))
      have F3 : Fr (kg lk) wr w3 := (((Fr.refl [] wr).alloc _).mono (T := kg lk) (by simp)).trans hA.fr (fun x hx => Or.inl hx)
      have hrk : r ∉ kg lk := fun hm => by have h1 := HD.out.new r hm; have h2 := lt_of_heap HR.out.obj; omega
      have href3 : IsRef w3 r k' (leftS S Q1 kn) := HD.out.ref.fr F3 (fun x hx hm => by
        rcases List.mem_cons.1 hx with rfl | hx
        · exact hrk hm
        · exact HD.out.ok.s HD.out.ref.es.ok (by decide) x hm hx)
      have hes3 : IsEs w3 qk Q1 := HD.out.es.fr F3 (fun x hx hm => HD.out.ok.s HD.out.es.ok (by decide) x hm hx)
      obtain ⟨g4, hg4, z0, z1⟩ : ∃ g4, g = g4 ∧ w3.cell? ⟨g4, kn * 2, none⟩ = some (.int .i64 e.id) ∧ w3.cell? ⟨g4, kn * 2 + 1, none⟩ = some (.int .i64 e.tm) := by
        obtain ⟨p5, c5, hv5, -, hat5⟩ := hes3.open
        rw [HV.out] at hv5
        obtain ⟨g5, h5, h6, h7⟩ := hat5 kn e HE.out
        injection hv5 with x1 x2 x3
        rw [← x1] at h5
        injection h5 with h5; injection h5 with h5
        exact ⟨g5, h5, h6, h7⟩
      subst hg4
      have hids : ((leftS S Q1 kn).map Ent.id).Nodup := ((List.filter_sublist (l := S)).map _).nodup HN.out
      have hll : (leftS S Q1 kn).length < 100000 := by have := List.length_filter_le (fun e => decide (e ∈ Q1.drop kn)) S; unfold leftS; omega
      have HDR := Lib.hid (rdrop_any href3 hll hids e.id)
      obtain ⟨np, nn, nc, hnk⟩ := kval_open lk'
      have HNK := Lib.hid hnk
      rw [hnk]
      have HK' := Lib.hid hk'
      have HL' := Lib.hid hl'
      have HG' : Hid (∀ x ∈ kg lk', w.heap.size ≤ x) := Lib.hid (fun x hx => by
        rcases hg' x hx with h1 | h1
        · exact HD.out.new x h1
        · rw [World.size_alloc] at h1; have := HD.out.fr.size; omega)
      have HF3 := Lib.hid F3
      have HES3 := Lib.hid hes3
      have HRK : Hid (r ∉ kg lk') := Lib.hid (fun hm => by have h1 := HG'.out r hm; have h2 := lt_of_heap HR.out.obj; omega)
      clear hA hk' hl' hg' F3 hrk href3 hes3 hids hll hnk
      go_wp2_with (go_at_call 26; refine HDR.out.mono ?_; rintro v w4 ⟨rfl, k4, hr4, hn4, hf4⟩; rw [leftS_next HQ.out.perm HN.out HE.out] at hr4; have HR4 := Lib.hid hr4; have HN4 := Lib.hid hn4; have HF4 := Lib.hid hf4; clear hr4 hn4 hf4)
      have hfin : RDueSt w r k S Q1 qk (kn + 1) w4 lk' k4 := by
        have F1 : Fr [r] w w3 := HD.out.fr.trans HF3.out (fun y hy => Or.inr (HD.out.new y hy))
        refine ⟨HR4.out, fun x hx => Or.inr (Nat.le_trans F1.size (HN4.out x hx)), HES3.out.fr HF4.out (fun x hx hm => HQG.out (by
          obtain rfl : x = r := by simpa using hm
          exact hx)), F1.trans HF4.out (fun y hy => Or.inl hy), HK'.out.fr HF4.out (fun x hx hm => HRK.out (by
          obtain rfl : x = r := by simpa using hm
          exact hx)), ?_, HG'.out⟩
        rw [HL'.out, HD.out.l, List.take_add_one, HE.out]; simp
      rw [← HNK.out]
      go_roundg (N - (kn + 1))
      case rel => exact ⟨kn + 1, lk', k4, rfl, rfl, rfl, by omega, Lib.hid hfin⟩
      case measure => omega
    · obtain rfl : kn = N := by omega
      have hst := dueL_stop now most Q1
      rw [HNN.out] at hst
      by_cases hq : kn < Q1.length
      · obtain ⟨e, he⟩ : ∃ e, Q1[kn]? = some e := ⟨_, List.getElem?_eq_getElem hq⟩
        have g3 : decide ((kn : Int) < Q1.length) = true := by simpa using hq
        obtain ⟨g, rfl, q0, q1⟩ := hat kn e he
        by_cases ht : e.tm ≤ now
        · have g2 : decide (e.tm ≤ now) = true := by simpa using ht
          have g1 : decide ((kn : Int) < most) = false := by
            rcases hst with h1 | h1 | ⟨f, h1, h2⟩
            · simp; omega
            · rw [he] at h1; cases h1
            · rw [he] at h1; obtain rfl := Option.some.inj h1; omega
          clear hst he hat hc2
          go_wp2_with fail
          go_ret
          first | exact ⟨lk, qk, k', by rw [HKV.out]; rfl, HD.out⟩ | exact ⟨lk, by rw [HKV.out]; rfl, qk, k', HD.out⟩
        · have g2 : decide (e.tm ≤ now) = false := by simpa using ht
          clear hst he hat hc2
          go_wp2_with fail
          go_ret
          first | exact ⟨lk, qk, k', by rw [HKV.out]; rfl, HD.out⟩ | exact ⟨lk, by rw [HKV.out]; rfl, qk, k', HD.out⟩
      · have g3 : decide ((kn : Int) < Q1.length) = false := by simpa using hq
        clear hst hat hc2
        go_wp2_with fail
        go_ret
        first | exact ⟨lk, qk, k', by rw [HKV.out]; rfl, HD.out⟩ | exact ⟨lk, by rw [HKV.out]; rfl, qk, k', HD.out⟩
end Go.Proofs.Ytjdkdakepomhdaa
