/- The lists of a Book: what is read of them, what marking and growing leaves. No program in sight. -/
import Derived.Test.YtjdkdakepomhdaaBook0
namespace Go.Proofs.Ytjdkdakepomhdaa
open Go.RowKit

theorem next_i64 (k : Nat) (h : k < 9223372036854775807) : Value.int .i64 (wrap64 ((k : Int) + 1)) = Value.int .i64 ((k + 1 : Nat) : Int) := by
  have : wrap64 ((k : Int) + 1) = (k : Int) + 1 := by unfold wrap64; omega
  rw [this]; rfl

/-- A slice's value, of whatever make. -/
def kad : Option Kp → Option Addr
  | none => none
  | some k => some ⟨k.g, k.pre.length, none⟩
def kcap : Option Kp → Nat
  | none => 0
  | some k => k.l.length + k.spare.length
theorem kval_eq (k : Option Kp) : kval k = .slice (kad k) (kl k).length (kcap k) := by cases k <;> rfl

/-- What is read of a slice. -/
def Sl (w : World) (v : Value) (l : List Value) : Prop :=
  ∃ p c, v = .slice p l.length c ∧ (l ≠ [] → ∃ b o, p = some ⟨b, o, none⟩ ∧ Cells w ⟨b, o, none⟩ l)
theorem kok.sl {w : World} {E : TypeId} {k : Option Kp} (h : kok w E k) : Sl w (kval k) (kl k) := by
  cases k with
  | none => exact ⟨none, 0, rfl, fun h => absurd rfl h⟩
  | some k => exact ⟨some _, _, rfl, fun _ => ⟨_, _, rfl, Kp.Lies.cells h⟩⟩
theorem Sl.opens {w : World} {v : Value} {l : List Value} (h : Sl w v l) : ∃ p c, v = .slice p l.length c := by
  obtain ⟨p, c, h, _⟩ := h; exact ⟨p, c, h⟩
theorem Sl.at {w : World} {v : Value} {l : List Value} (h : Sl w v l) {i : Nat} {x : Value} (hx : l[i]? = some x) : ∃ b o c, v = .slice (some ⟨b, o, none⟩) l.length c ∧ w.cell? ⟨b, o + i, none⟩ = some x := by
  obtain ⟨p, c, h1, h2⟩ := h
  obtain ⟨b, o, rfl, hc⟩ := h2 (by rintro rfl; simp at hx)
  exact ⟨b, o, c, h1, hc.lit i x hx⟩

/-- A block of elements of type E. -/
def Blk (w : World) (E : TypeId) (b : Nat) : Prop := ∃ cs, w.heap[b]? = some (.cells cs E (0, 0))
theorem Blk.lt {w : World} {E : TypeId} {b : Nat} (h : Blk w E b) : b < w.heap.size := by obtain ⟨_, h⟩ := h; exact lt_of_heap h
theorem Blk.ne {w : World} {E T : TypeId} {b c : Nat} (h : Blk w E b) (k : Blk w T c) (hne : E ≠ T) : b ≠ c := by
  rintro rfl
  obtain ⟨_, h⟩ := h; obtain ⟨_, k⟩ := k
  rw [h] at k
  exact hne (by injection (Option.some.inj k))
theorem Blk.fr {S : List Nat} {w w' : World} {E : TypeId} {b : Nat} (h : Blk w E b) (hf : Fr S w w') (hs : b ∉ S) : Blk w' E b := by
  obtain ⟨cs, h⟩ := h; exact ⟨cs, hf.heap h hs⟩
theorem Kp.Lies.blk {w : World} {E : TypeId} {k : Kp} (h : k.Lies w E) : Blk w E k.g := ⟨_, h.heap⟩
theorem kok.blk {w : World} {E : TypeId} {k : Option Kp} (h : kok w E k) : ∀ x ∈ kg k, Blk w E x := by
  cases k with
  | none => simp [kg]
  | some k => intro x hx; obtain rfl : x = k.g := by simpa [kg] using hx
              exact Kp.Lies.blk h
/-- Blocks of one type are not among those of another. -/
theorem far {w : World} {E T : TypeId} {S : List Nat} (hS : ∀ x ∈ S, Blk w T x) (hne : E ≠ T) {b : Nat} (hb : Blk w E b) : b ∉ S := fun h => (hb.ne (hS b h) hne) rfl

/-- The spare room behind t marks. -/
def Kp.grow (k : Kp) (t : Nat) (m : Value) : Kp := { k with spare := List.replicate t m ++ k.spare.drop t }
/-- The list behind t marks in its room. -/
def Kp.view (k : Kp) (t : Nat) (m : Value) : Kp := { k with l := k.l ++ List.replicate t m, spare := k.spare.drop t }
theorem Kp.view_grow {w : World} {E : TypeId} {k : Kp} {t : Nat} {m : Value} (h : (k.view t m).Lies w E) : (k.grow t m).Lies w E := by
  refine ⟨?_, ?_⟩
  · have := h.heap
    simpa [Kp.view, Kp.grow, Kp.all] using this
  · have := h.capLe
    simp only [Kp.view, Kp.grow, List.length_append, List.length_replicate, List.length_drop] at this ⊢
    omega
theorem Kp.view_zero (k : Kp) (m : Value) : k.view 0 m = k := by simp [Kp.view]
theorem Kp.grow_zero (k : Kp) (m : Value) : k.grow 0 m = k := by simp [Kp.grow]
theorem Kp.view_push (k : Kp) (t s : Nat) (m : Value) : (k.view t m).push (List.replicate s m) = k.view (t + s) m := by
  simp [Kp.view, Kp.push, List.replicate_append_replicate, List.drop_drop]

/-- Appended to k, from world w0 on: n marks m; the slice is then lk. -/
structure Grew (w0 : World) (E : TypeId) (k : Option Kp) (n : Nat) (m : Value) (lk : Option Kp) (w : World) : Prop where
  base : kok w0 E k
  l : kl lk = kl k ++ List.replicate n m
  ok : kok w E lk
  fr : Fr (kg k) w0 w
  old : ∀ k0, k = some k0 → ∃ t, t ≤ k0.spare.length ∧ (k0.grow t m).Lies w E ∧ ((t = n ∧ lk = some (k0.view t m)) ∨ ∀ x ∈ kg lk, w0.heap.size ≤ x)
  new : k = none → ∀ x ∈ kg lk, w0.heap.size ≤ x

theorem Grew.zero {w0 : World} {E : TypeId} {k : Option Kp} {m : Value} (h : kok w0 E k) : Grew w0 E k 0 m k w0 :=
  ⟨h, by simp, h, Fr.refl _ _, fun k0 hk => ⟨0, Nat.zero_le _, by subst hk; rw [Kp.grow_zero]; exact h, Or.inl ⟨rfl, by rw [Kp.view_zero]; exact hk⟩⟩, fun h => by subst h; simp [kg]⟩

theorem Grew.app {w0 w w' : World} {E : TypeId} {k lk : Option Kp} {n s : Nat} {m v' : Value} (h : Grew w0 E k n m lk w) (ha : AppR w E lk (List.replicate s m) v' w') :
    ∃ lk', v' = kval lk' ∧ Grew w0 E k (n + s) m lk' w' := by
  rcases ha with ⟨h1, rfl, rfl⟩ | ⟨k1, rfl, h1, h2, h3, h4, h5⟩ | ⟨k', h1, h2, h3, h4, h5, h6, h7, h8⟩
  · obtain rfl : s = 0 := by simpa using h1
    exact ⟨lk, rfl, h⟩
  · rw [List.length_replicate] at h1
    refine ⟨some (k1.push (List.replicate s m)), h2, ⟨h.base, ?_, h3, ?_, ?_, ?_⟩⟩
    · show k1.l ++ _ = _
      rw [show k1.l = kl (some k1) from rfl, h.l, List.append_assoc, List.replicate_append_replicate]
    · refine h.fr.trans h4 ?_
      intro x hx
      obtain rfl : x = k1.g := by simpa using hx
      cases k with
      | none => exact Or.inr (h.new rfl _ (by simp [kg]))
      | some k0 =>
        obtain ⟨t, _, _, h6⟩ := h.old k0 rfl
        rcases h6 with ⟨_, h6⟩ | h6
        · left; rw [Option.some.inj h6]; simp [kg, Kp.view]
        · exact Or.inr (h6 _ (by simp [kg]))
    · intro k0 hk
      obtain ⟨t, ht, hg, h6⟩ := h.old k0 hk
      rcases h6 with ⟨rfl, h6⟩ | h6
      · obtain rfl := Option.some.inj h6
        rw [Kp.view_push] at h3 ⊢
        have h7 : t + s ≤ k0.spare.length := by simp only [Kp.view, List.length_drop] at h1; omega
        exact ⟨t + s, h7, Kp.view_grow h3, Or.inl ⟨rfl, rfl⟩⟩
      · refine ⟨t, ht, hg.fr h4 ?_, Or.inr (fun x hx => h6 x (by simpa [kg, Kp.push] using hx))⟩
        have h8 := h6 k1.g (by simp [kg])
        intro h9
        have h10 : k0.g = k1.g := by simpa [Kp.grow] using h9
        have h11 := h.base
        subst hk
        have := Kp.Lies.lt h11
        omega
    · intro hk x hx
      exact h.new hk x (by simpa [kg, Kp.push] using hx)
  · refine ⟨some k', h1, ⟨h.base, ?_, h6, ?_, ?_, ?_⟩⟩
    · show k'.l = _
      rw [h5, h.l, List.append_assoc, List.replicate_append_replicate]
    · exact h.fr.trans h7 (by simp)
    · intro k0 hk
      obtain ⟨t, ht, hg, h9⟩ := h.old k0 hk
      refine ⟨t, ht, hg.fr h7 (by simp), Or.inr ?_⟩
      intro x hx
      obtain rfl : x = k'.g := by simpa [kg] using hx
      rw [h2]; exact h.fr.size
    · intro hk x hx
      obtain rfl : x = k'.g := by simpa [kg] using hx
      rw [h2]; exact h.fr.size

/-- The same slice, with other spare room. -/
def Like (a b : Option Kp) : Prop := kad a = kad b ∧ kl a = kl b ∧ kcap a = kcap b
theorem Like.refl (a : Option Kp) : Like a a := ⟨rfl, rfl, rfl⟩
theorem Like.trans {a b c : Option Kp} (h : Like a b) (k : Like b c) : Like a c := ⟨h.1.trans k.1, h.2.1.trans k.2.1, h.2.2.trans k.2.2⟩
theorem Like.val {a b : Option Kp} (h : Like a b) : kval a = kval b := by rw [kval_eq, kval_eq, h.1, h.2.1, h.2.2]
theorem kg_of_kad {a b : Option Kp} (h : kad a = kad b) : kg a = kg b := by
  cases a <;> cases b <;> simp_all [kad, kg]
theorem Like.kg {a b : Option Kp} (h : Like a b) : kg a = kg b := kg_of_kad h.1

/-- A slice grown out of k, by cnt marks m. -/
def MkAt (w : World) (E : TypeId) (B0 : Nat) (k : Option Kp) (m : Value) (cnt : Nat) (v : Value) : Prop :=
  ∃ b o c, v = .slice (some ⟨b, o, none⟩) ((kl k).length + cnt) c ∧ Blk w E b ∧ Cells w ⟨b, o, none⟩ (kl k ++ List.replicate cnt m) ∧ (kad k = some ⟨b, o, none⟩ ∨ B0 ≤ b)
theorem MkAt.like {w : World} {E : TypeId} {B0 : Nat} {k k' : Option Kp} {m : Value} {cnt : Nat} {v : Value} (h : MkAt w E B0 k m cnt v) (hl : Like k k') : MkAt w E B0 k' m cnt v := by
  unfold MkAt at *; rw [← hl.1, ← hl.2.1]; exact h
theorem MkAt.sl {w : World} {E : TypeId} {B0 : Nat} {k : Option Kp} {m : Value} {cnt : Nat} {v : Value} (h : MkAt w E B0 k m cnt v) : Sl w v (kl k ++ List.replicate cnt m) := by
  obtain ⟨b, o, c, rfl, _, h2, _⟩ := h
  exact ⟨some ⟨b, o, none⟩, c, by simp, fun _ => ⟨b, o, rfl, h2⟩⟩
theorem MkAt.fr {S : List Nat} {w w' : World} {E T : TypeId} {B0 : Nat} {k : Option Kp} {m : Value} {cnt : Nat} {v : Value} (h : MkAt w E B0 k m cnt v) (hf : Fr S w w') (hS : ∀ x ∈ S, Blk w T x) (hne : E ≠ T) : MkAt w' E B0 k m cnt v := by
  obtain ⟨b, o, c, h1, h2, h3, h4⟩ := h
  have h5 := far hS hne h2
  exact ⟨b, o, c, h1, h2.fr hf h5, h3.fr hf (fun _ => h5), h4⟩
theorem MkAt.grew {w0 w : World} {E : TypeId} {B0 : Nat} {k lk kj : Option Kp} {n cnt : Nat} {m mj v : Value} (h : Grew w0 E k n m lk w) (hB : ∀ x ∈ kg k, x < B0) (hv : MkAt w0 E B0 kj mj cnt v)
    (hor : (kad kj = kad k ∧ kl kj = kl k ∧ mj = m) ∨ (∀ x ∈ kg kj, x ∉ kg k)) : MkAt w E B0 kj mj cnt v := by
  obtain ⟨b, o, c, h1, h2, h3, h4⟩ := hv
  by_cases hb : b ∈ kg k
  · obtain ⟨k0, rfl⟩ : ∃ k0, k = some k0 := by cases k with
      | none => simp [kg] at hb
      | some k0 => exact ⟨k0, rfl⟩
    have hb' : b = k0.g := by simpa [kg] using hb
    have hlt := hB b hb
    rcases h4 with h4 | h4
    · rcases hor with ⟨e1, e2, rfl⟩ | hor
      · rw [e1] at h4
        obtain ⟨rfl, rfl⟩ : k0.g = b ∧ k0.pre.length = o := by simpa [kad] using h4
        obtain ⟨t, ht, hg, _⟩ := h.old k0 rfl
        have hbase : k0.Lies w0 E := h.base
        refine ⟨_, _, c, h1, hg.blk, ?_, Or.inl (e1.trans rfl)⟩
        rw [e2] at h3 ⊢
        refine Cells.of_blk hg.heap _ _ (fun j v hj => ?_)
        have h5 := h3.lit j v hj
        rw [blk_cell hbase.heap, List.getElem?_toArray] at h5
        rw [List.getElem?_toArray]
        have h5 : (k0.pre ++ (k0.l ++ (k0.spare ++ k0.post)))[k0.pre.length + j]? = some v := h5
        show (k0.pre ++ (k0.l ++ ((List.replicate t mj ++ k0.spare.drop t) ++ k0.post)))[k0.pre.length + j]? = some v
        rw [List.getElem?_append_right (by omega), Nat.add_sub_cancel_left] at h5 ⊢
        simp only [kl] at hj
        rw [List.getElem?_append] at h5 hj ⊢
        split
        · rename_i hjl; simp only [hjl, if_true] at h5; exact h5
        · rename_i hjl
          simp only [hjl, if_false] at h5 hj
          rw [List.getElem?_replicate] at hj
          split at hj
          · obtain rfl := Option.some.inj hj
            rw [List.append_assoc, List.getElem?_append]
            split
            · rename_i hjt
              rw [List.getElem?_replicate]
              rw [List.length_replicate] at hjt
              simp [hjt]
            · rename_i hjt
              rw [List.length_replicate] at hjt ⊢
              rw [List.getElem?_append] at h5 ⊢
              rw [List.length_drop, List.getElem?_drop, show t + (j - k0.l.length - t) = j - k0.l.length by omega]
              by_cases hq : j - k0.l.length < k0.spare.length
              · simp only [hq, if_true] at h5
                rw [if_pos (by omega)]; exact h5
              · simp only [hq, if_false] at h5
                rw [if_neg (by omega), show j - k0.l.length - t - (k0.spare.length - t) = j - k0.l.length - k0.spare.length by omega]; exact h5
          · cases hj
      · refine absurd hb (hor b ?_)
        cases kj with
        | none => cases h4
        | some kj => simp only [kad, Option.some.injEq, Addr.mk.injEq] at h4
                     simp [kg, h4.1]
    · omega
  · exact ⟨b, o, c, h1, h2.fr h.fr hb, h3.fr h.fr (fun _ => hb), h4⟩
theorem Grew.mark {w0 w : World} {E : TypeId} {B0 : Nat} {k lk : Option Kp} {n : Nat} {m : Value} (h : Grew w0 E k n m lk w) (hn : 0 < n) (hB : B0 ≤ w0.heap.size) : MkAt w E B0 k m n (kval lk) := by
  have hl := h.l
  have hok := h.ok
  cases lk with
  | none => simp [kl] at hl; omega
  | some k1 =>
    have hok : k1.Lies w E := hok
    have hl' : k1.l = kl k ++ List.replicate n m := hl
    refine ⟨k1.g, k1.pre.length, k1.l.length + k1.spare.length, ?_, hok.blk, hl' ▸ hok.cells, ?_⟩
    · show Value.slice _ _ _ = _
      rw [hl']; simp
    · cases k with
      | none => exact Or.inr (Nat.le_trans hB (h.new rfl _ (by simp [kg])))
      | some k0 =>
        obtain ⟨t, _, _, h6⟩ := h.old k0 rfl
        rcases h6 with ⟨_, h6⟩ | h6
        · obtain rfl := Option.some.inj h6
          exact Or.inl rfl
        · exact Or.inr (Nat.le_trans hB (h6 _ (by simp [kg])))
/-- The list itself, behind. -/
theorem Grew.self {w0 w : World} {E : TypeId} {k lk : Option Kp} {n : Nat} {m : Value} (h : Grew w0 E k n m lk w) : ∃ k', Like k k' ∧ kok w E k' := by
  cases k with
  | none => exact ⟨none, Like.refl _, trivial⟩
  | some k0 =>
    obtain ⟨t, ht, hg, _⟩ := h.old k0 rfl
    exact ⟨some (k0.grow t m), ⟨rfl, rfl, by simp [kcap, Kp.grow]; omega⟩, hg⟩
/-- Another one, behind. -/
theorem Grew.other {w0 w : World} {E : TypeId} {k lk k' : Option Kp} {n : Nat} {m : Value} (h : Grew w0 E k n m lk w) (hk : kok w0 E k') (hd : ∀ x ∈ kg k', x ∉ kg k) : kok w E k' := hk.fr h.fr hd

/-- The lists, each as in ks but for its spare room. -/
def Cur (w : World) (E : TypeId) (ks : List (Option Kp)) : Prop := ∀ (j : Nat) (k : Option Kp), ks[j]? = some k → ∃ k', Like k k' ∧ kok w E k'
theorem Cur.fr {S : List Nat} {w w' : World} {E T : TypeId} {ks : List (Option Kp)} (h : Cur w E ks) (hf : Fr S w w') (hS : ∀ x ∈ S, Blk w T x) (hne : E ≠ T) : Cur w' E ks := fun j k hk => by
  obtain ⟨k', h1, h2⟩ := h j k hk
  exact ⟨k', h1, h2.fr hf (fun x hx => far hS hne (h2.blk x hx))⟩
/-- No two lists share a block. -/
def Apart (ks : List (Option Kp)) : Prop := ∀ (i j : Nat) (k k' : Option Kp), i ≠ j → ks[i]? = some k → ks[j]? = some k' → ∀ x ∈ kg k, x ∉ kg k'
theorem Cur.grew {w0 w : World} {E : TypeId} {ks : List (Option Kp)} {i : Nat} {k k0 lk : Option Kp} {n : Nat} {m : Value} (h : Cur w0 E ks) (hi : ks[i]? = some k) (hl : Like k k0) (hg : Grew w0 E k0 n m lk w) (ha : Apart ks) : Cur w E ks := fun j kj hj => by
  by_cases hij : j = i
  · subst hij
    obtain rfl : kj = k := Option.some.inj (hj.symm.trans hi)
    obtain ⟨k', h1, h2⟩ := hg.self
    exact ⟨k', hl.trans h1, h2⟩
  · obtain ⟨k', h1, h2⟩ := h j kj hj
    refine ⟨k', h1, hg.other h2 ?_⟩
    rw [← h1.kg, ← hl.kg]
    exact ha j i kj k hij hj hi

/-- The lists of a row of grown ones. -/
def Marks (w : World) (E : TypeId) (B0 : Nat) (ks : List (Option Kp)) (m2 : Nat → Value) (cnt : Nat) (vs : List Value) : Prop := ∀ (j : Nat) (v : Value), vs[j]? = some v → ∃ k, ks[j]? = some k ∧ MkAt w E B0 k (m2 j) cnt v
theorem Marks.fr {S : List Nat} {w w' : World} {E T : TypeId} {B0 : Nat} {ks : List (Option Kp)} {m2 : Nat → Value} {cnt : Nat} {vs : List Value} (h : Marks w E B0 ks m2 cnt vs) (hf : Fr S w w') (hS : ∀ x ∈ S, Blk w T x) (hne : E ≠ T) : Marks w' E B0 ks m2 cnt vs := fun j v hv => by
  obtain ⟨k, h1, h2⟩ := h j v hv
  exact ⟨k, h1, h2.fr hf hS hne⟩
theorem Marks.grew {w0 w : World} {E : TypeId} {B0 : Nat} {ks : List (Option Kp)} {m2 : Nat → Value} {cnt : Nat} {vs : List Value} {i : Nat} {k k0 lk : Option Kp} {n : Nat} (h : Marks w0 E B0 ks m2 cnt vs) (hi : ks[i]? = some k) (hl : Like k k0) (hg : Grew w0 E k0 n (m2 i) lk w) (ha : Apart ks) (hB : ∀ x ∈ kg k, x < B0) : Marks w E B0 ks m2 cnt vs := fun j v hv => by
  obtain ⟨kj, h1, h2⟩ := h j v hv
  refine ⟨kj, h1, MkAt.grew hg (by rw [← hl.kg]; exact hB) h2 ?_⟩
  by_cases hij : j = i
  · subst hij
    obtain rfl : kj = k := Option.some.inj (h1.symm.trans hi)
    exact Or.inl ⟨hl.1, hl.2.1, rfl⟩
  · right
    rw [← hl.kg]
    exact ha j i kj k hij h1 hi
theorem Marks.snoc {w : World} {E : TypeId} {B0 : Nat} {ks : List (Option Kp)} {m2 : Nat → Value} {cnt : Nat} {vs : List Value} {k : Option Kp} {v : Value} (h : Marks w E B0 ks m2 cnt vs) (hi : ks[vs.length]? = some k) (hv : MkAt w E B0 k (m2 vs.length) cnt v) : Marks w E B0 ks m2 cnt (vs ++ [v]) := fun j u hu => by
  rw [List.getElem?_append] at hu
  split at hu
  · exact h j u hu
  · rename_i hj
    obtain ⟨hj2, hu⟩ : j - vs.length < 1 ∧ _ := by
      have := (List.getElem?_eq_some_iff.1 hu).1
      exact ⟨by simpa using this, hu⟩
    obtain rfl : j = vs.length := by omega
    obtain rfl : v = u := by simpa using hu
    exact ⟨k, hi, hv⟩
theorem Marks.nil {w : World} {E : TypeId} {B0 : Nat} {ks : List (Option Kp)} {m2 : Nat → Value} {cnt : Nat} : Marks w E B0 ks m2 cnt [] := fun j v hv => by simp at hv

/-- The first c elements are m. -/
def Kp.mark (k : Kp) (c : Nat) (m : Value) : Kp := { k with l := List.replicate c m ++ k.l.drop c }
theorem Kp.mark_len (k : Kp) (c : Nat) (m : Value) (h : c ≤ k.l.length) : (k.mark c m).l.length = k.l.length := by simp [Kp.mark]; omega
theorem Kp.mark_val (k : Kp) (c : Nat) (m : Value) (h : c ≤ k.l.length) : (k.mark c m).val = k.val := by
  unfold Kp.val; rw [Kp.mark_len k c m h]; rfl
theorem Kp.mark_step (k : Kp) (c : Nat) (m : Value) (h : c < k.l.length) : (k.mark c m).set c m = k.mark (c + 1) m := by
  unfold Kp.set Kp.mark
  simp only [Kp.mk.injEq, true_and, and_true]
  rw [List.set_append_right _ _ (by simp), List.length_replicate, Nat.sub_self, List.drop_eq_getElem_cons h, List.set_cons_zero, List.replicate_succ', List.append_assoc, List.singleton_append]
/-- How many of list j are marked when the walk stands at list i, place t. -/
def upto (i t j n : Nat) : Nat := if j < i then n else if j = i then t else 0
def Ph (w : World) (E : TypeId) (ks : List (Option Kp)) (mk : Nat → Value) (i t : Nat) : Prop :=
  ∀ (j : Nat) (k : Kp), ks[j]? = some (some k) → (k.mark (upto i t j k.l.length) (mk j)).Lies w E
theorem Ph.zero {w : World} {E : TypeId} {ks : List (Option Kp)} {mk : Nat → Value} (h : ∀ (j : Nat) (k : Option Kp), ks[j]? = some k → kok w E k) : Ph w E ks mk 0 0 := fun j k hk => by
  have : upto 0 0 j k.l.length = 0 := by unfold upto; split; omega; split <;> rfl
  rw [this]
  simpa [Kp.mark] using (show k.Lies w E from h j _ hk)
theorem Ph.next {w : World} {E : TypeId} {ks : List (Option Kp)} {mk : Nat → Value} {i : Nat} {k : Option Kp} (h : Ph w E ks mk i (kl k).length) (hi : ks[i]? = some k) : Ph w E ks mk (i + 1) 0 := fun j kj hj => by
  have h1 := h j kj hj
  have : upto (i + 1) 0 j kj.l.length = upto i (kl k).length j kj.l.length := by
    unfold upto
    by_cases h2 : j < i
    · rw [if_pos (by omega), if_pos h2]
    · by_cases h3 : j = i
      · subst h3
        obtain rfl := Option.some.inj (hi.symm.trans hj)
        rw [if_pos (by omega), if_neg (by omega), if_pos rfl]; rfl
      · rw [if_neg (by omega), if_neg h2, if_neg h3]; split <;> rfl
  rw [this]; exact h1
theorem Ph.step {w : World} {E : TypeId} {ks : List (Option Kp)} {mk : Nat → Value} {i t : Nat} {k : Kp} (h : Ph w E ks mk i t) (hi : ks[i]? = some (some k)) (ht : t < k.l.length) (ha : Apart ks) :
    Ph (w.setCell ⟨k.g, k.pre.length + t, none⟩ (mk i)) E ks mk i (t + 1) := fun j kj hj => by
  have h1 := h j kj hj
  by_cases hij : j = i
  · subst hij
    obtain rfl : k = kj := Option.some.inj (Option.some.inj (hi.symm.trans hj))
    have e1 : upto j t j k.l.length = t := by unfold upto; simp
    have e2 : upto j (t + 1) j k.l.length = t + 1 := by unfold upto; simp
    rw [e1] at h1
    rw [e2, ← Kp.mark_step k t _ ht]
    exact h1.set t (by rw [Kp.mark_len _ _ _ (by omega)]; exact ht) _
  · have e1 : upto i (t + 1) j kj.l.length = upto i t j kj.l.length := by unfold upto; simp [hij]
    rw [e1]
    refine h1.fr (Fr.set (S := [k.g]) (Fr.refl _ _) (Or.inl (by simp)) _) ?_
    have := ha j i _ _ hij hj hi kj.g (by simp [kg])
    show kj.g ∉ [k.g]
    simpa [kg] using this
/-- All marked. -/
def marked (mk : Nat → Value) (ks : List (Option Kp)) : List (Option Kp) := ks.mapIdx fun j k => k.map fun k => k.mark k.l.length (mk j)
theorem marked_at {mk : Nat → Value} {ks : List (Option Kp)} {j : Nat} {k' : Option Kp} (h : (marked mk ks)[j]? = some k') : ∃ k, ks[j]? = some k ∧ kad k' = kad k ∧ kval k' = kval k ∧ kl k' = List.replicate (kl k).length (mk j) := by
  unfold marked at h
  rw [List.getElem?_mapIdx] at h
  cases hj : ks[j]? with
  | none => rw [hj] at h; cases h
  | some k =>
    rw [hj] at h
    obtain rfl := Option.some.inj h
    refine ⟨k, rfl, ?_⟩
    cases k with
    | none => exact ⟨rfl, rfl, rfl⟩
    | some k => exact ⟨rfl, Kp.mark_val k _ _ (Nat.le_refl _), by simp [kl, Kp.mark]⟩
theorem marked_len (mk : Nat → Value) (ks : List (Option Kp)) : (marked mk ks).length = ks.length := by simp [marked]
theorem marked_val (mk : Nat → Value) (ks : List (Option Kp)) : (marked mk ks).map kval = ks.map kval := by
  apply List.ext_getElem?
  intro j
  rw [List.getElem?_map, List.getElem?_map]
  cases h : (marked mk ks)[j]? with
  | none =>
    have : ks[j]? = none := by
      rw [List.getElem?_eq_none_iff] at h ⊢
      rwa [marked_len] at h
    rw [this]
  | some k' =>
    obtain ⟨k, h1, _, h2, _⟩ := marked_at h
    rw [h1]; simp [h2]
theorem marked_apart {mk : Nat → Value} {ks : List (Option Kp)} (h : Apart ks) : Apart (marked mk ks) := fun i j k k' hij hi hj => by
  obtain ⟨k1, h1, h2, _⟩ := marked_at hi
  obtain ⟨k2, h3, h4, _⟩ := marked_at hj
  rw [kg_of_kad h2, kg_of_kad h4]
  exact h i j k1 k2 hij h1 h3
theorem Ph.done {w : World} {E : TypeId} {ks : List (Option Kp)} {mk : Nat → Value} (h : Ph w E ks mk ks.length 0) : Cur w E (marked mk ks) := fun j k' hj => by
  refine ⟨k', Like.refl _, ?_⟩
  unfold marked at hj
  rw [List.getElem?_mapIdx] at hj
  cases hk : ks[j]? with
  | none => rw [hk] at hj; cases hj
  | some k =>
    rw [hk] at hj
    obtain rfl := Option.some.inj hj
    cases k with
    | none => trivial
    | some k =>
      have := h j k hk
      rw [show upto ks.length 0 j k.l.length = k.l.length by unfold upto; rw [if_pos (List.getElem?_eq_some_iff.1 hk).1]] at this
      exact this
end Go.Proofs.Ytjdkdakepomhdaa
