/- DiskOwn (layer 19): nobody's bytes are another one's. -/
import Derived.Test.YtmdmdjolfahjbaaRef19
import Derived.Test.YtmdmdjolfahjbaaDiskLaw
import Derived.Test.YtmdmdjolfahjbaaClose
namespace Go.Proofs.Ytmdmdjolfahjbaa
open Go.RowKit

section
variable {P : Program} {w : World}
theorem wpList_appk {ops : Array Oper} {rest : List Oper} {o : Oper} {a : Act} {Q : Exit → Act → World → Prop} (hgd : o.guard = none) (s x : Operand) (t : TypeId)
    (ho : o.op = .call { callee := .builtin .append, args := #[s, x], argTypes := #[t, t] }) (E : TypeId) (i : TypeInfo) (z : Value) (bytes : Nat) (ht : P.underlying t = some (.slice E)) (hi : P.info? E = some i) (hz : i.zero = some z) (hs : i.size = 1) (hb : i.bytes = bytes) (hz1 : z.cells.size = 1)
    (k kx : Option Kp) (hse : a.eval s = kval k) (hk : kok w E k) (hxe : a.eval x = kval kx) (hx : kok w E kx) (h1 : ∀ v ∈ kl kx, v.oneCell' = true)
    (hlim : ((kl k).length + (kl kx).length) * bytes ≤ 140737488355328) (hlim2 : (kl k).length + (kl kx).length ≤ maxLen)
    (hK : ∀ v' w', AppR w E k (kl kx) v' w' → wpList P ops Q rest (a.put o.dst v') w') : wpList P ops Q (o :: rest) a w := by
  refine wpList_plain hgd fun K hK' => ?_
  obtain ⟨v', w', hrun, hr⟩ := run_appk (P := P) (w := w) t o.type E i z bytes ht hi hz hs hb hz1 k kx hk hx h1 hlim hlim2
  unfold Oper.wp
  simp [execOp, ho, resolve, invoke, builtin, hse, hxe, hrun, Result.andThen]
  exact hK' _ _ (hK _ _ hr)
end

theorem wpAnyH_mono2 {P : Program} {md : Region.Mode} {ops : Array Oper} {Q : Exit → Act → World → Prop} {S S' : World → Prop} (hS : ∀ w, S' w → S w) :
    ∀ (fuel : Nat) (listed : Array Bool) (a : Act) (w : World), wpAnyH P md ops Q S' fuel listed a w → wpAnyH P md ops Q S fuel listed a w
  | 0, _, _, _, h => h
  | fuel + 1, _, _, _, h => ⟨h.1, fun i hi => wpOp_mono (fun a' w' h' => ⟨hS _ h'.1, wpAnyH_mono2 hS fuel _ a' w' h'.2⟩) (h.2 i hi)⟩

/-- A row of bytes that was made. -/
def Kp.made (g : Nat) (l : List UInt8) (rest : List Value) : Kp := ⟨g, [], l.map u8v, rest, []⟩
theorem made_lies {w : World} {g cap : Nat} {l : List UInt8} {rest : List Value} {E : TypeId} (h : w.heap[g]? = some (.cells (l.map u8v ++ rest).toArray E (0, 0))) (hl : (l.map u8v ++ rest).length = cap) (hc : cap ≤ maxLen) : (Kp.made g l rest).Lies w E := by
  refine ⟨?_, ?_⟩
  · show w.heap[g]? = _
    rw [h]; simp [Kp.made, Kp.all]
  · simp only [Kp.made]; rw [← List.length_append]; omega
theorem made_val {g n cap : Nat} {l : List UInt8} {rest : List Value} (hn : l.length = n) (hl : (l.map u8v ++ rest).length = cap) : (Kp.made g l rest).val = .slice (some ⟨g, 0, none⟩) n cap := by
  subst hn
  rw [List.length_append, List.length_map] at hl
  simp only [Kp.made, Kp.val, List.length_map, List.length_nil, hl]

theorem load_any (w : World) (ad : Addr) (cap : Nat) (l : List UInt8) (hl : Cells w ad (l.map u8v)) (hn : l.length ≤ 2000) :
    Calls Try.prog 15 #[.slice (some ad) l.length cap] w fun e w' =>
    ∃ p x, e = .returned (.tuple #[.pointer p, .int .i64 x]) ∧ Fr [] w w' ∧ (p = none ∨ (p = some ⟨w.heap.size + 1, 0, none⟩ ∧ IsDisk w' (w.heap.size + 1) w.heap.size (Dk.load l))) := by
  by_cases h : l ≠ [] ∧ l.length % 16 = 0
  · exact (load_ok w ad cap l hl h.1 h.2 (by omega)).mono fun e w' ⟨h1, h2, h3⟩ => ⟨_, _, h1, h3, Or.inr ⟨rfl, h2⟩⟩
  · refine (load_bad w (some ad) l.length cap (by omega) ?_).mono fun e w' ⟨h1, h2⟩ => ⟨_, _, h1, h2, Or.inl rfl⟩
    by_cases h0 : l = []
    · left; rw [h0]; rfl
    · right; left; exact fun h1 => h ⟨h0, h1⟩

set_option maxRecDepth 100000 in
set_option maxHeartbeats 2000000 in
theorem own_walk (w : World) (v : Value) (l : List UInt8) (h : RdSl 1 RdU8 w v l) :
    Calls Try.prog 4 #[v] w fun e w' => e = .returned (.bool true) ∧ Below w.heap.size w w' := by
  obtain ⟨ii, hii, hz0, hz1, hz2⟩ := info_parts Try.infoBU
  obtain ⟨L, HL⟩ : ∃ L, Hid (l.take 2000 = L) := ⟨_, rfl⟩
  have HLL : Hid (L.length ≤ 2000) := Lib.hid (by rw [← HL.out, List.length_take]; omega)
  go_enter Try.func4, Try.ntmps4
  go_wp2_with fail
  refine (few_any w v l h).mono ?_
  rintro e w1 ⟨g1, cap1, rest1, rfl, hg1, hb1, hl1, hc1, hf1⟩
  rw [HL.out] at hb1 hl1 ⊢
  have HK1 := Lib.hid (made_lies hb1 hl1 hc1)
  have HV1 := Lib.hid (made_val (g := g1) rfl hl1)
  have HF1 := Lib.hid hf1
  clear hb1 hl1 hc1 hf1 h
  go_wp2_with (at_builtin; refine wpList_app rfl _ _ 31 rfl 5 ii (.int .u8 0) 1 Try.underlying31 hii hz0 hz1 hz2 rfl (some (Kp.made g1 L rest1)) HV1.out.symm ?_ _ 3 3 rfl ([1, 2, 3].map u8v) rfl ?_ ?_ ?_ ?_ ?_)
  · exact HK1.out.fr ((Fr.refl [] _).alloc _) (by simp)
  · exact Cells.of_blk (heap_new _ _) 0 _ (fun j u hu => by rw [Nat.zero_add, show (#[Value.int .u8 1, Value.int .u8 2, Value.int .u8 3] : Array Value) = (([1, 2, 3] : List UInt8).map u8v).toArray from rfl, List.getElem?_toArray]; exact hu)
  · exact u8v_one [1, 2, 3]
  · have := HLL.out; simp only [kl, Kp.made, List.length_map]; omega
  · have := HLL.out; simp only [kl, Kp.made, List.length_map]; unfold maxLen; omega
  intro v2 w2 hA2
  obtain ⟨lk, rfl, hlk, hll, hlg, hf2⟩ := hA2.fresh (HK1.out.fr ((Fr.refl [] _).alloc _) (by simp))
  have hll : kl lk = (L ++ [1, 2, 3]).map u8v := by rw [hll]; simp [kl, Kp.made]
  have hlg : ∀ x ∈ kg lk, w.heap.size ≤ x := fun x hx => by
    rcases hlg x hx with h | h
    · obtain rfl : x = g1 := by simpa [kg, Kp.made] using h
      exact hg1
    · rw [World.size_alloc] at h; have := HF1.out.size; omega
  have hnew1 : ∀ x ∈ kg (some (Kp.made g1 L rest1)), w.heap.size ≤ x := fun x hx => by
    obtain rfl : x = g1 := by simpa [kg, Kp.made] using hx
    exact hg1
  have HF2 := Lib.hid (Fr.trans (S := []) (HF1.out.trans ((Fr.refl [] w1).alloc (.cells #[u8v 1, u8v 2, u8v 3] 5)) (by simp)) hf2 (fun x hx => Or.inr (hnew1 x hx)))
  obtain ⟨lk, rfl⟩ : ∃ k, lk = some k := by
    cases lk with
    | none => have := congrArg List.length hll; simp [kl] at this
    | some k => exact ⟨k, rfl⟩
  have HLK : Hid (lk.Lies w2 5) := Lib.hid hlk
  have HLS : Hid (lk.l = (L ++ [1, 2, 3]).map u8v) := Lib.hid hll
  have HLG : Hid (w.heap.size ≤ lk.g) := Lib.hid (hlg lk.g (by simp [kg]))
  clear hA2 hlk hll hlg hf2
  go_wp2_with (at_builtin; refine wpList_appk rfl _ _ 31 rfl 5 ii (.int .u8 0) 1 Try.underlying31 hii hz0 hz1 hz2 rfl (some ⟨w2.heap.size, [], [], [], []⟩) (some lk) rfl ⟨heap_new _ _, Nat.zero_le _⟩ rfl ?_ ?_ ?_ ?_ ?_)
  · exact HLK.out.fr ((Fr.refl [] _).alloc _) (by simp)
  · intro v hv; rw [show kl (some lk) = _ from HLS.out] at hv; exact u8v_one _ v hv
  · have := HLL.out; rw [show kl (some lk) = _ from HLS.out, show kl (some (⟨w2.heap.size, [], [], [], []⟩ : Kp)) = [] from rfl]; simp; omega
  · have := HLL.out; rw [show kl (some lk) = _ from HLS.out, show kl (some (⟨w2.heap.size, [], [], [], []⟩ : Kp)) = [] from rfl]; simp [maxLen]; omega
  intro v3 w3 hA3
  obtain ⟨wk, rfl, hwk, hwl, hwg, hf3⟩ := hA3.fresh ⟨heap_new _ _, Nat.zero_le _⟩
  have hwl : kl wk = (L ++ [1, 2, 3]).map u8v := by rw [hwl]; simp [kl, Kp.made]
  have hf3 : Fr [] w2 w3 := Fr.trans (S := []) ((Fr.refl [] w2).alloc (.cells #[] 5)) hf3 (by simp [kg])
  obtain ⟨wk, rfl⟩ : ∃ k, wk = some k := by
    cases wk with
    | none => have := congrArg List.length hwl; simp [kl] at this
    | some k => exact ⟨k, rfl⟩
  have HWG : Hid (w2.heap.size ≤ wk.g) := Lib.hid (by
    rcases hwg wk.g (by simp [kg]) with h | h
    · exact Nat.le_of_eq (show wk.g = w2.heap.size by simpa [kg] using h).symm
    · rw [World.size_alloc] at h; omega)
  have HWK : Hid (wk.Lies w3 5) := Lib.hid hwk
  have HWS : Hid (wk.l = (L ++ [1, 2, 3]).map u8v) := Lib.hid hwl
  have HLK3 : Hid (lk.Lies w3 5) := Lib.hid (HLK.out.fr hf3 (by simp))
  have HF3 := Lib.hid (HF2.out.trans hf3 (by simp))
  have HNE : Hid (lk.g ≠ wk.g) := Lib.hid (by have := HWG.out; have := HLK.out.lt; omega)
  obtain ⟨n, HN⟩ : ∃ n, Hid (L.length = n) := ⟨_, rfl⟩
  obtain ⟨lg, HG⟩ : ∃ x, Hid (lk.g = x) := ⟨_, rfl⟩
  obtain ⟨lo, HO⟩ : ∃ x, Hid (lk.pre.length = x) := ⟨_, rfl⟩
  obtain ⟨lc, HC⟩ : ∃ x, Hid (lk.l.length + lk.spare.length = x) := ⟨_, rfl⟩
  have hle : n + 3 ≤ lc := by rw [← HC.out, HLS.out, ← HN.out]; simp
  have hn : n ≤ 2000 := by rw [← HN.out]; exact HLL.out
  have hlc : lc ≤ 9223372036854775807 := by have := HLK.out.capLe; rw [HC.out] at this; unfold maxLen at this; omega
  have hlv : kval (some lk) = .slice (some ⟨lg, lo, none⟩) (n + 3) lc := by
    show Value.slice _ _ _ = _
    rw [HG.out, HO.out, HC.out, HLS.out, ← HN.out]; simp
  have hwv : ∃ o c, kval (some wk) = .slice (some ⟨wk.g, o, none⟩) (n + 3) c := ⟨_, _, by
    show Value.slice _ _ _ = _
    rw [HWS.out, ← HN.out]; simp; exact ⟨rfl, rfl⟩⟩
  obtain ⟨wo, wc, hwv⟩ := hwv
  have HLV := Lib.hid hlv
  have HWV := Lib.hid hwv
  rw [hlv, hwv]
  have e3 : wrap64 ((n : Int) + 3 - 3) = n := by rw [IntWalk.wrap64_in _ (by omega)]; omega
  have hld := load_any w3 ⟨lg, lo, none⟩ lc L (fun j v hv => by
    have h1 := HLK3.out.cells j v (by rw [HLS.out, List.map_append, List.getElem?_append_left (List.getElem?_eq_some_iff.1 hv).1]; exact hv)
    rw [HG.out, HO.out] at h1; exact h1) HLL.out
  rw [HN.out] at hld
  clear hA3 hwk hwl hwg hf3 hlv hwv
  go_wp2_with fail
  refine hld.mono ?_
  rintro e w4 ⟨p, x, rfl, hf4, hp⟩
  have HF4 := Lib.hid (HF3.out.trans hf4 (by simp))
  have HLK4 : Hid (lk.Lies w4 5) := Lib.hid (HLK3.out.fr hf4 (by simp))
  have HWK4 : Hid (wk.Lies w4 5) := Lib.hid (HWK.out.fr hf4 (by simp))
  have HP := Lib.hid hp
  have q1 := conv_kval (k := some lk) HLK4.out HLS.out
  have q2 := conv_kval (k := some wk) HWK4.out HWS.out
  rw [HLV.out] at q1
  rw [HWV.out] at q2
  generalize (⟨(L ++ [1, 2, 3]).toArray⟩ : ByteArray) = S at q1 q2
  clear hld hf4 hp e3
  go_wp2_with fail
  refine (wakes_any w4).mono ?_
  rintro e w5 ⟨rfl, hf5⟩
  have HF5 := Lib.hid (HF4.out.trans hf5 (by simp))
  have HLK5 : Hid (lk.Lies w5 5) := Lib.hid (HLK4.out.fr hf5 (by simp))
  have HWK5 : Hid (wk.Lies w5 5) := Lib.hid (HWK4.out.fr hf5 (by simp))
  have HP5 : Hid (p = none ∨ (p = some ⟨w3.heap.size + 1, 0, none⟩ ∧ IsDisk w5 (w3.heap.size + 1) w3.heap.size (Dk.load L))) := Lib.hid (HP.out.imp id (fun h => ⟨h.1, h.2.fr hf5 (by simp) (by simp)⟩))
  clear q1 q2 hf5
  go_wp2_with fail
  go_loopg [7] (n + 3) (fun left s7 wr => ∃ (i : Nat) (l' : List Value), i ≤ n + 3 ∧ left = n + 3 - i ∧ s7 = .int .i64 i ∧ l'.length = n + 3 ∧ ({ lk with l := l' } : Kp).Lies wr 5 ∧ Fr [lk.g] w5 wr)
  case atStart => exact ⟨0, lk.l, Nat.zero_le _, rfl, rfl, by rw [HLS.out, ← HN.out]; simp, HLK5.out, Fr.refl _ _⟩
  case round =>
    obtain ⟨i, l', hi, rfl, rfl, hl', hlk', hfr⟩ := hrel
    by_cases hi1 : i < n + 3
    · have hcell : ∃ x, wr.cell? ⟨lg, lo + i, none⟩ = some x := ⟨_, by
        have := hlk'.cellAt i _ (List.getElem?_eq_getElem (by show i < l'.length; omega))
        rw [← HG.out, ← HO.out]; exact this⟩
      obtain ⟨y, hcell⟩ := hcell
      have hfree : wr.frozen? ⟨lg, lo + i, none⟩ = false := by rw [← HG.out]; exact hlk'.free _
      have hset := hlk'.set i (by show i < l'.length; omega) (.int .u8 99)
      have hset : ({ lk with l := l'.set i (.int .u8 99) } : Kp).Lies (wr.setCell ⟨lg, lo + i, none⟩ (.int .u8 99)) 5 := by
        rw [← HG.out, ← HO.out]; exact hset
      have HS := Lib.hid hset
      have HFR := Lib.hid hfr
      have HL' := Lib.hid hl'
      have gd : decide ((i : Int) < (n : Int) + 3) = true := by simp; omega
      clear hset hfr hl' hlk'
      go_wp2_with fail
      go_roundg (n + 3 - (i + 1))
      case rel => exact ⟨i + 1, l'.set i (.int .u8 99), by omega, rfl, rfl, by rw [List.length_set]; exact HL'.out, HS.out, HFR.out.set (Or.inl (by simp [HG.out])) _⟩
      case measure => omega
    · have gd : decide ((i : Int) < (n : Int) + 3) = false := by simp; omega
      have HF6 := Lib.hid (HF5.out.trans hfr (fun x hx => Or.inr (by rw [List.mem_singleton.1 hx]; exact HLG.out)))
      have hwk6 := HWK5.out.fr hfr (by simp; exact HNE.out.symm)
      have HWK6 := Lib.hid hwk6
      have hp6 : p = none ∨ (p = some ⟨w3.heap.size + 1, 0, none⟩ ∧ IsDisk wr (w3.heap.size + 1) w3.heap.size (Dk.load L)) := HP5.out.imp id (fun h => ⟨h.1, h.2.fr hfr (by have := HLK3.out.lt; simp; omega) (by have := HLK3.out.lt; simp; omega)⟩)
      have h03 := HF3.out.size
      clear hfr hlk' hwk6 hl'
      rcases hp6 with rfl | ⟨rfl, hd6⟩
      · go_wp2_with fail
        go_ret
        exact ⟨rfl, HF6.out.below (Nat.le_refl _) (by simp)⟩
      · have HD6 := Lib.hid hd6
        have HB0 : Hid (IsBook (wr.alloc (.cells Bk.nil.cells.toArray 46)) wr.heap.size Bk.nil) := Lib.hid (IsBook.new (heap_new _ _))
        obtain ⟨dg, HDG⟩ : ∃ x, Hid (w3.heap.size + 1 = x) := ⟨_, rfl⟩
        obtain ⟨db, HDB⟩ : ∃ x, Hid (w3.heap.size = x) := ⟨_, rfl⟩
        rw [HDG.out, HDB.out] at HD6
        rw [HDG.out]
        obtain ⟨D, HD⟩ : ∃ D, Hid (Dk.load L = D) := ⟨_, rfl⟩
        rw [HD.out] at HD6
        obtain ⟨w6, rfl⟩ : ∃ wo : World, wo = wr := ⟨_, rfl⟩
        clear hd6 gd
        go_wp2_with fail
        go_loopg [9] 3 (fun left s9 wr => ∃ (t : Nat) (B : Bk), t ≤ 3 ∧ left = 3 - t ∧ s9 = .int .i64 t ∧ IsBook wr w6.heap.size B ∧ B.t = Prt.nil ∧ (∀ x ∈ B.blocks w6.heap.size, w6.heap.size ≤ x) ∧ Fr [] w6 wr)
        case atStart => exact ⟨0, Bk.nil, by omega, rfl, rfl, HB0.out, rfl, fun x hx => by simp [Bk.blocks, Bk.nil, Prt.blocks, Prt.nil, kg] at hx; omega, (Fr.refl [] _).alloc _⟩
        case round =>
          obtain ⟨t, B, ht, rfl, rfl, hbook, hbt, hbb, hfr⟩ := hrel
          by_cases ht1 : t < 3
          · have gt : decide ((t : Int) < 3) = true := by simp; omega
            have hdr := HD6.out.fr hfr (by simp) (by simp)
            have HBK := Lib.hid hbook
            have HBT := Lib.hid hbt
            have HBB := Lib.hid hbb
            have HFR := Lib.hid hfr
            have hlen : D.bytes.length ≤ 2000 := by rw [← HD.out]; exact HLL.out
            have HLEN := Lib.hid hlen
            have hno := hdr.lo
            have hdn : D.down = false := by rw [← HD.out]; rfl
            have HDN := Lib.hid hdn
            clear hbook hbt hbb hfr hlen hdn
            go_wp2_with fail
            refine (image_any hdr).mono ?_
            rintro e w7 ⟨g7, c7, r7, rfl, a1, a2, a3, a4, a5⟩
            have hk7 := made_lies a2 a3 a4
            rw [← made_val (g := g7) rfl a3]
            have hb7 := HBK.out.fr a5 (fun _ _ => List.not_mem_nil)
            have hlt7 := HBK.out.lt
            go_wp2_with fail
            refine (bytesU_ok (k := some (Kp.made g7 D.bytes r7)) hb7 hk7 (fun y hy hm => by
              obtain rfl : y = g7 := by simpa [kg, Kp.made] using hy
              have := hlt7 _ hm; omega) (by have := HLEN.out; simp [kl, Kp.made]; omega) (fun u hu => by
              obtain ⟨b, _, rfl⟩ := List.mem_map.1 (show u ∈ D.bytes.map u8v from hu); exact ⟨b, rfl⟩)).mono ?_
            rintro e w8 ⟨rfl, B8, hb8, hf8, hbl8, -, ht8⟩
            have hsd := HD6.out.sizes
            have hd8 := (hdr.fr a5 (by simp) (by simp)).fr hf8 (fun hm => by have := HBB.out _ hm; omega) (fun hm => by have := HBB.out _ hm; omega)
            have hbb8 : ∀ y ∈ B8.blocks w6.heap.size, w6.heap.size ≤ y := fun y hy => by
              rcases hbl8 y hy with h | h | h
              · exact HBB.out y h
              · obtain rfl : y = g7 := by simpa [kg, Kp.made] using h
                have := HFR.out.size; omega
              · have := HFR.out.size; have := a5.size; omega
            have HF8 : Hid (Fr [] w6 w8) := Lib.hid ((HFR.out.trans a5 (by simp)).trans hf8 (fun y hy => Or.inr (HBB.out y hy)))
            have hbt8 : B8.t = Prt.nil := ht8.trans HBT.out
            clear hbl8 hf8 a1 a2 a3 a4 a5 hk7 hb7 hlt7 hdr
            go_wp2_with fail
            refine (read_ok hd8 0 (by omega) HDN.out).mono ?_
            rintro e w9 ⟨g9, c9, r9, rfl, a1, a2, a3, a4, a5⟩
            have hat := Dk.at_len hd8.len (i := 0) (by omega)
            have hk9 := made_lies a2 a3 a4
            have hb9 := hb8.fr a5 (fun _ _ => List.not_mem_nil)
            have hlt9 := hb8.lt
            have hv9 := made_val (g := g9) hat a3
            go_wp2_with fail
            rw [← hv9]
            refine (bytesU_ok (k := some (Kp.made g9 (D.at 0) r9)) hb9 hk9 (fun y hy hm => by
              obtain rfl : y = g9 := by simpa [kg, Kp.made] using hy
              have := hlt9 _ hm; omega) (by simp [kl, Kp.made]; omega) (fun u hu => by
              obtain ⟨b, _, rfl⟩ := List.mem_map.1 (show u ∈ (D.at 0).map u8v from hu); exact ⟨b, rfl⟩)).mono ?_
            rintro e w10 ⟨rfl, B10, hb10, hf10, hbl10, -, ht10⟩
            have hbb10 : ∀ y ∈ B10.blocks w6.heap.size, w6.heap.size ≤ y := fun y hy => by
              rcases hbl10 y hy with h | h | h
              · exact hbb8 y h
              · obtain rfl : y = g9 := by simpa [kg, Kp.made] using h
                have := HF8.out.size; omega
              · have := HF8.out.size; have := a5.size; omega
            have HF10 : Hid (Fr [] w6 w10) := Lib.hid ((HF8.out.trans a5 (by simp)).trans hf10 (fun y hy => Or.inr (hbb8 y hy)))
            have HB10 := Lib.hid hb10
            have HBB10 := Lib.hid hbb10
            have HBT10 := Lib.hid (ht10.trans hbt8)
            clear hb10 hf10 hbl10 hbb10 ht10 hb9 hk9 hv9 a1 a2 a3 a4 a5 hlt9 hbb8 hbt8 hb8 hd8
            go_wp2_with fail
            go_roundg (3 - (t + 1))
            case rel => exact ⟨t + 1, B10, by omega, rfl, rfl, HB10.out, HBT10.out, HBB10.out, HF10.out⟩
            case measure => omega
          · have gt : decide ((t : Int) < 3) = false := by simp; omega
            have hdr := HD6.out.fr hfr (by simp) (by simp)
            have HD7 := Lib.hid hdr
            have HBK := Lib.hid hbook
            have HBT := Lib.hid hbt
            have HBB := Lib.hid hbb
            have HFR := Lib.hid hfr
            have hmk := mk_16
            clear hbook hbt hbb hfr hdr
            obtain ⟨w7, rfl⟩ : ∃ wo : World, wo = wr := ⟨_, rfl⟩
            go_wp2_with (at_builtin; refine wpList_app rfl _ _ 31 rfl 5 ii (.int .u8 0) 1 Try.underlying31 hii hz0 hz1 hz2 rfl (some (Kp.made w7.heap.size zero16 [])) rfl ?_ _ 2 2 rfl ([5, 6].map u8v) rfl ?_ ?_ ?_ ?_ ?_)
            · exact made_lies (rest := []) (by rw [List.append_nil]; exact blk_alloc (heap_new _ _) _) rfl (by decide)
            · have h0 := Cells.of_blk (heap_new (w7.alloc (.cells zeroArr 5)) (.cells #[Value.int .u8 5, Value.int .u8 6] 5)) 0 _ (fun j u hu => by rw [Nat.zero_add, show (#[Value.int .u8 5, Value.int .u8 6] : Array Value) = (([5, 6] : List UInt8).map u8v).toArray from rfl, List.getElem?_toArray]; exact hu)
              rw [World.size_alloc] at h0; exact h0
            · exact u8v_one [5, 6]
            · show ((zero16.map u8v).length + 2) * 1 ≤ 140737488355328; decide
            · show (zero16.map u8v).length + 2 ≤ maxLen; decide
            intro v8 w8 hA8
            have hz : kok ((w7.alloc (.cells zeroArr 5)).alloc (.cells #[Value.int .u8 5, Value.int .u8 6] 5)) 5 (some (Kp.made w7.heap.size zero16 [])) := made_lies (rest := []) (by rw [List.append_nil]; exact blk_alloc (heap_new _ _) _) rfl (by decide)
            obtain ⟨fk, rfl, hfk, hfl, hfg, hf8⟩ := hA8.fresh hz
            have hfl : kl fk = (zero16 ++ [5, 6]).map u8v := by rw [hfl]; rfl
            have hf8 : Fr [] w7 w8 := Fr.trans (S := []) (((Fr.refl [] w7).alloc _).alloc _) hf8 (fun y hy => Or.inr (Nat.le_of_eq (show y = w7.heap.size by simpa [kg, Kp.made] using hy).symm))
            obtain ⟨fk, rfl⟩ : ∃ k, fk = some k := by
              cases fk with
              | none => have := congrArg List.length hfl; simp [kl] at this
              | some k => exact ⟨k, rfl⟩
            have hfg : w7.heap.size ≤ fk.g := by
              rcases hfg fk.g (by simp [kg]) with h | h
              · exact Nat.le_of_eq (show fk.g = w7.heap.size by simpa [kg, Kp.made] using h).symm
              · rw [World.size_alloc, World.size_alloc] at h; omega
            have HFK : Hid (fk.Lies w8 5) := Lib.hid hfk
            have HFL : Hid (fk.l = (zero16 ++ [5, 6]).map u8v) := Lib.hid hfl
            have HFG := Lib.hid hfg
            have HF8 := Lib.hid hf8
            obtain ⟨fg, HG8⟩ : ∃ x, Hid (fk.g = x) := ⟨_, rfl⟩
            obtain ⟨fo, HO8⟩ : ∃ x, Hid (fk.pre.length = x) := ⟨_, rfl⟩
            obtain ⟨fc, HC8⟩ : ∃ x, Hid (fk.l.length + fk.spare.length = x) := ⟨_, rfl⟩
            have hfl18 : fk.l.length = 18 := by rw [HFL.out]; rfl
            have hfc : 18 ≤ fc := by rw [← HC8.out]; omega
            have hfc2 : fc ≤ 9223372036854775807 := by have := HFK.out.capLe; rw [HC8.out] at this; unfold maxLen at this; omega
            have hfv : kval (some fk) = .slice (some ⟨fg, fo, none⟩) 18 fc := by
              show Value.slice _ _ _ = _
              rw [HG8.out, HO8.out, HC8.out, hfl18]
            rw [hfv]
            have hfcell : ∀ wx, fk.Lies wx 5 → ∀ i x, ((zero16 ++ [5, 6]).map u8v)[i]? = some x → wx.cell? ⟨fg, fo + i, none⟩ = some x := fun wx hx i x hi => by
              have := hx.cellAt i x (by rw [HFL.out]; exact hi)
              rw [HG8.out, HO8.out] at this; exact this
            have HFC := Lib.hid hfcell
            have hd8 := HD7.out.fr HF8.out (by simp) (by simp)
            have hno := hd8.lo
            clear hA8 hfk hfl hfg hf8 hmk hz hfv hfcell hfl18
            go_wp2_with fail
            have hdn : D.down = false := by rw [← HD.out]; rfl
            refine (write_ok hd8 0 (by omega) hdn ⟨fg, fo, none⟩ fc zero16 (fun j u hj => by
              rw [add_lit]
              exact HFC.out w8 HFK.out j u (by rw [List.map_append, List.getElem?_append_left (List.getElem?_eq_some_iff.1 hj).1]; exact hj)) rfl).mono ?_
            rintro e w9 ⟨rfl, hd9, hf9⟩
            have HF9 : Hid (Fr [] w8 w9 → True) := Lib.hid (fun _ => trivial)
            have hsd := HD6.out.sizes
            have hsz7 := HFR.out.size
            have hfg7 := HFG.out
            have hne1 : fk.g ∉ [dg, db] := by simp; omega
            have hfk9 := HFK.out.fr hf9 hne1
            have x16 := HFC.out w9 hfk9 16 (.int .u8 5) rfl
            have x17 := HFC.out w9 hfk9 17 (.int .u8 6) rfl
            have x0 := HFC.out w9 hfk9 0 (.int .u8 0) rfl
            have x0f : w9.frozen? ⟨fg, fo, none⟩ = false := by rw [← HG8.out]; exact hfk9.free _
            rw [Nat.add_zero] at x0
            have hfr10 : Fr [fg] w9 (w9.setCell ⟨fg, fo, none⟩ (.int .u8 77)) := Fr.set (Fr.refl _ _) (by simp) _
            obtain ⟨D', HD'⟩ : ∃ D', Hid (D.write 0 zero16 = D') := ⟨_, rfl⟩
            rw [HD'.out] at hd9
            have hd10 := hd9.fr hfr10 (by rw [← HG8.out]; simp; omega) (by rw [← HG8.out]; simp; omega)
            have hn0 : D'.n = D.n := by rw [← HD'.out]; unfold Dk.write; rw [← HD.out]; rfl
            have hdn' : D'.down = false := by rw [← HD'.out]; unfold Dk.write; rw [← HD.out]; rfl
            have hby : D'.bytes = splice D.bytes 0 zero16 := by rw [← HD'.out]; unfold Dk.write; rw [← HD.out]; rfl
            have HD10 := Lib.hid hd10
            have HN0 := Lib.hid hn0
            have HDN' := Lib.hid hdn'
            have HBY := Lib.hid hby
            have HF9' := Lib.hid hf9
            have HF10 := Lib.hid hfr10
            clear hd9 hd10 hfk9 hf9 hfr10 hby
            go_wp2_with fail
            refine (read_ok HD10.out 0 (by omega) HDN'.out).mono ?_
            rintro e w11 ⟨g11, c11, r11, rfl, a1, a2, a3, a4, a5⟩
            have hat0 : D'.at 0 = zero16 := by
              unfold Dk.at
              rw [HBY.out]
              have := HD6.out.len
              have := HD6.out.lo
              unfold splice zero16
              simp
            go_wp2_with fail
            rw [hat0] at a2 a3
            have hblt := HBK.out.lt
            have HBK8 : IsBook w8 w6.heap.size B := HBK.out.fr HF8.out (fun _ _ => List.not_mem_nil)
            have HBK9 : IsBook w9 w6.heap.size B := HBK8.fr HF9'.out (fun y hy hm => by have := HBB.out y hy; simp at hm; omega)
            have HBK10 := HBK9.fr HF10.out (fun y hy hm => by have := hblt y hy; rw [← HG8.out] at hm; simp at hm; omega)
            have HBK11 := HBK10.fr a5 (fun _ _ => List.not_mem_nil)
            have HBKD := Lib.hid (HBK11.fr (Fr.drew (Fr.refl [] _)) (fun _ _ => List.not_mem_nil))
            have hsz11 : w9.heap.size ≤ g11 := by simpa [World.setCell] using a1
            have hsz78 := HF8.out.size
            have hsz89 := HF9'.out.size
            have hwk3 := HWK.out.lt
            have hdb := HDB.out
            have hdg := HDG.out
            have HLT : Hid (∀ y ∈ B.blocks w6.heap.size, y < g11) := Lib.hid (fun y hy => by have := hblt y hy; omega)
            have hwd := ((((HWK6.out.fr HFR.out (by simp)).fr HF8.out (by simp)).fr HF9'.out (by simp; omega)).fr HF10.out (by rw [← HG8.out]; simp; have := HWK6.out.lt; omega)).fr (a5.drew) (by simp)
            have HWD := Lib.hid hwd
            have HDD := Lib.hid (HD10.out.fr a5.drew (by simp) (by simp))
            have HFD := Lib.hid ((((HF6.out.trans HFR.out (by simp)).trans HF8.out (by simp)).trans HF9'.out (fun y hy => Or.inr (by simp at hy; have := HF3.out.size; omega))).trans HF10.out (fun y hy => Or.inr (by rw [List.mem_singleton.1 hy, ← HG8.out]; have := HF6.out.size; omega)) |>.trans a5.drew (by simp))
            have HW6 := Lib.hid HF6.out.size
            have HNWK : Hid (∀ y ∈ B.blocks w6.heap.size, y ≠ wk.g) := Lib.hid (fun y hy h => by have := HBB.out y hy; have := HWK6.out.lt; omega)
            have s1 : w11.drew.cell? ⟨g11, 0, none⟩ = some (.int .u8 0) := by
              have h2 : w11.drew.heap[g11]? = _ := a2
              exact blk_cell' h2 rfl
            have hwo : wk.pre.length = wo := by
              have h1 := HWV.out
              simp only [kval, Kp.val, Value.slice.injEq, Option.some.injEq, Addr.mk.injEq] at h1
              exact h1.1.2.1
            have HQW : Hid (∀ wx, wk.Lies wx 5 → (convert 31 9 (.slice (some ⟨wk.g, wo + 16, none⟩) (n - 16) (wc - 16))).run Try.prog wx = .ok (.string ⟨(L.drop 16).toArray⟩) wx) := Lib.hid (fun wx hx => by
              refine run_conv_u8 (l := L.drop 16) Try.underlying31 Try.underlying5 Try.underlying9 (fun j u hj => ?_) _ _ (by rw [List.length_drop, HN.out])
              rw [List.map_drop, List.getElem?_drop] at hj
              have h1 := hx.cellAt (16 + j) u (by rw [HWS.out, List.map_append, List.getElem?_append_left (List.getElem?_eq_some_iff.1 hj).1]; exact hj)
              rw [add_lit, Nat.add_assoc, ← hwo]; exact h1)
            have hq1 := HQW.out _ HWD.out
            have hn16 : 16 ≤ n := by
              rw [← HN.out]; have h1 := HD6.out.len; have h2 := HD6.out.lo; have h3 : D.bytes = L := by rw [← HD.out]; rfl
              rw [h3] at h1; omega
            have hwc : n + 3 ≤ wc := by
              have h1 := HWV.out
              simp only [kval, Kp.val, Value.slice.injEq] at h1
              omega
            have ew : IntKind.i64.wrap (n : Int) = n := IntWalk.i64_in _ (by omega)
            have m1 : ¬ (wc = 16) := by omega
            have m2 : (n : Int) ≤ wc := by omega
            have m3 : (16 : Int) ≤ (n : Int) := by omega
            refine wp_region_held_drew (S := fun w' => w'.cell? ⟨g11, 0, none⟩ = some (.int .u8 0) ∧ (convert 31 9 (.slice (some ⟨wk.g, wo + 16, none⟩) (n - 16) (wc - 16))).run Try.prog w' = .ok (.string ⟨(L.drop 16).toArray⟩) w') (by kernel_rfl) ⟨s1, hq1⟩ (fun hHeld => ?_)
-- 27 operations
            refine wpAnyH_take (i := 0) (oi := ⟨some 93, _, _, _, _, _⟩) (v := ?v0) rfl (by kernel_rfl) (by kernel_rfl) (by kernel_rfl) (fun _ _ _ h => h) (Or.inl ⟨by rfl, ?hy0⟩) (by assumption) ?rest0
            case hy0 => (intro w hSw; (try dsimp only at hSw); go_simp; try with_reducible rfl)
            try simp only [Act.put, List.setIfInBounds_toArray, List.set_cons_zero, List.set_cons_succ]
            refine wpAnyH_ready (rs := [1]) (by kernel_rfl) (by simp) (AllReadyH.cons (o := ⟨some 94, _, _, _, _, _⟩) rfl (fun K hK => ?_) AllReadyH.nil)
            go_simp
            refine (close_ok HBKD.out HBT.out).mono ?_
            rintro e w12 ⟨rfl, hf12⟩
            have y1 := hf12.cell s1 (fun hm => absurd (HLT.out _ hm) (Nat.lt_irrefl _))
            have y2 := HQW.out w12 (HWD.out.fr hf12 (fun hm => HNWK.out _ hm rfl))
            have HW12 : Hid (wk.Lies w12 5) := Lib.hid (HWD.out.fr hf12 (fun hm => HNWK.out _ hm rfl))
            have hd12 := HDD.out.fr hf12 (fun hm => by have := HBB.out _ hm; omega) (fun hm => by have := HBB.out _ hm; omega)
            have HF12 := Lib.hid (HFD.out.trans hf12 (fun y hy => Or.inr (Nat.le_trans HW6.out (HBB.out y hy))))
            clear hf12
            refine hK.out _ _ ?_ (fun hHeld => ?_)
            · exact ⟨by assumption, by assumption⟩
            clear hK K
            try simp only [Act.put, List.setIfInBounds_toArray, List.set_cons_zero, List.set_cons_succ]
            refine wpAnyH_take (i := 2) (oi := ⟨some 95, _, _, _, _, _⟩) (v := ?v2) rfl (by kernel_rfl) (by kernel_rfl) (by kernel_rfl) (fun _ _ _ h => h) (Or.inl ⟨by rfl, ?hy2⟩) (by assumption) ?rest2
            case hy2 => (intro w hSw; (try dsimp only at hSw); go_simp; try with_reducible rfl)
            try simp only [Act.put, List.setIfInBounds_toArray, List.set_cons_zero, List.set_cons_succ]
            refine wpAnyH_take (i := 3) (oi := ⟨some 96, _, _, _, _, _⟩) (v := ?v3) rfl (by kernel_rfl) (by kernel_rfl) (by kernel_rfl) (fun _ _ _ h => h) (Or.inl ⟨by rfl, ?hy3⟩) (by assumption) ?rest3
            case hy3 => (intro w hSw; (try dsimp only at hSw); go_simp; try with_reducible rfl)
            try simp only [Act.put, List.setIfInBounds_toArray, List.set_cons_zero, List.set_cons_succ]
            refine wpAnyH_take (i := 4) (oi := ⟨some 97, _, _, _, _, _⟩) (v := ?v4) rfl (by kernel_rfl) (by kernel_rfl) (by kernel_rfl) (fun _ _ _ h => h) (Or.inl ⟨by rfl, ?hy4⟩) (by assumption) ?rest4
            case hy4 => (intro w hSw; (try dsimp only at hSw); go_simp; try with_reducible rfl)
            try simp only [Act.put, List.setIfInBounds_toArray, List.set_cons_zero, List.set_cons_succ]
            refine wpAnyH_take (i := 5) (oi := ⟨some 98, _, _, _, _, _⟩) (v := ?v5) rfl (by kernel_rfl) (by kernel_rfl) (by kernel_rfl) (fun _ _ _ h => h) (Or.inl ⟨by rfl, ?hy5⟩) (by assumption) ?rest5
            case hy5 => (intro w hSw; (try dsimp only at hSw); go_simp; try with_reducible rfl)
            try simp only [Act.put, List.setIfInBounds_toArray, List.set_cons_zero, List.set_cons_succ]
            refine wpAnyH_take (i := 6) (oi := ⟨some 99, _, _, _, _, _⟩) (v := ?v6) rfl (by kernel_rfl) (by kernel_rfl) (by kernel_rfl) (fun _ _ _ h => h) (Or.inl ⟨by rfl, ?hy6⟩) (by assumption) ?rest6
            case hy6 => (intro w hSw; (try dsimp only at hSw); go_simp; try with_reducible rfl)
            try simp only [Act.put, List.setIfInBounds_toArray, List.set_cons_zero, List.set_cons_succ]
            refine wpAnyH_take (i := 7) (oi := ⟨some 100, _, _, _, _, _⟩) (v := ?v7) rfl (by kernel_rfl) (by kernel_rfl) (by kernel_rfl) (fun _ _ _ h => h) (Or.inl ⟨by rfl, ?hy7⟩) (by assumption) ?rest7
            case hy7 => (intro w hSw; (try dsimp only at hSw); go_simp; try with_reducible rfl)
            try simp only [Act.put, List.setIfInBounds_toArray, List.set_cons_zero, List.set_cons_succ]
            refine wpAnyH_take (i := 8) (oi := ⟨some 101, _, _, _, _, _⟩) (v := ?v8) rfl (by kernel_rfl) (by kernel_rfl) (by kernel_rfl) (fun _ _ _ h => h) (Or.inl ⟨by rfl, ?hy8⟩) (by assumption) ?rest8
            case hy8 => (intro w hSw; (try dsimp only at hSw); go_simp; try with_reducible rfl)
            try simp only [Act.put, List.setIfInBounds_toArray, List.set_cons_zero, List.set_cons_succ]
            refine wpAnyH_take (i := 9) (oi := ⟨some 102, _, _, _, _, _⟩) (v := ?v9) rfl (by kernel_rfl) (by kernel_rfl) (by kernel_rfl) (fun _ _ _ h => h) (Or.inl ⟨by rfl, ?hy9⟩) (by assumption) ?rest9
            case hy9 => (intro w hSw; (try dsimp only at hSw); go_simp; try with_reducible rfl)
            try simp only [Act.put, List.setIfInBounds_toArray, List.set_cons_zero, List.set_cons_succ]
            refine wpAnyH_take (i := 10) (oi := ⟨some 103, _, _, _, _, _⟩) (v := ?v10) rfl (by kernel_rfl) (by kernel_rfl) (by kernel_rfl) (fun _ _ _ h => h) (Or.inl ⟨by rfl, ?hy10⟩) (by assumption) ?rest10
            case hy10 => (intro w hSw; (try dsimp only at hSw); go_simp; try with_reducible rfl)
            try simp only [Act.put, List.setIfInBounds_toArray, List.set_cons_zero, List.set_cons_succ]
            refine wpAnyH_take (i := 11) (oi := ⟨some 104, _, _, _, _, _⟩) (v := ?v11) rfl (by kernel_rfl) (by kernel_rfl) (by kernel_rfl) (fun _ _ _ h => h) (Or.inl ⟨by rfl, ?hy11⟩) (by assumption) ?rest11
            case hy11 => (intro w hSw; (try dsimp only at hSw); go_simp; try with_reducible rfl)
            try simp only [Act.put, List.setIfInBounds_toArray, List.set_cons_zero, List.set_cons_succ]
            refine wpAnyH_take (i := 12) (oi := ⟨some 105, _, _, _, _, _⟩) (v := ?v12) rfl (by kernel_rfl) (by kernel_rfl) (by kernel_rfl) (fun _ _ _ h => h) (Or.inl ⟨by rfl, ?hy12⟩) (by assumption) ?rest12
            case hy12 => (intro w hSw; (try dsimp only at hSw); go_simp; try with_reducible rfl)
            try simp only [Act.put, List.setIfInBounds_toArray, List.set_cons_zero, List.set_cons_succ]
            refine wpAnyH_take (i := 13) (oi := ⟨some 106, _, _, _, _, _⟩) (v := ?v13) rfl (by kernel_rfl) (by kernel_rfl) (by kernel_rfl) (fun _ _ _ h => h) (Or.inl ⟨by rfl, ?hy13⟩) (by assumption) ?rest13
            case hy13 => (intro w hSw; (try dsimp only at hSw); go_simp; try with_reducible rfl)
            try simp only [Act.put, List.setIfInBounds_toArray, List.set_cons_zero, List.set_cons_succ]
            refine wpAnyH_take (i := 14) (oi := ⟨some 107, _, _, _, _, _⟩) (v := ?v14) rfl (by kernel_rfl) (by kernel_rfl) (by kernel_rfl) (fun _ _ _ h => h) (Or.inl ⟨by rfl, ?hy14⟩) (by assumption) ?rest14
            case hy14 => (intro w hSw; (try dsimp only at hSw); go_simp; try with_reducible rfl)
            try simp only [Act.put, List.setIfInBounds_toArray, List.set_cons_zero, List.set_cons_succ]
            refine wpAnyH_take (i := 18) (oi := ⟨some 111, _, _, _, _, _⟩) (v := ?v18) rfl (by kernel_rfl) (by kernel_rfl) (by kernel_rfl) (fun _ _ _ h => h) (Or.inl ⟨by rfl, ?hy18⟩) (by assumption) ?rest18
            case hy18 => (intro w hSw; (try dsimp only at hSw); go_simp; try with_reducible rfl)
            try simp only [Act.put, List.setIfInBounds_toArray, List.set_cons_zero, List.set_cons_succ]
            refine wpAnyH_take (i := 19) (oi := ⟨some 112, _, _, _, _, _⟩) (v := ?v19) rfl (by kernel_rfl) (by kernel_rfl) (by kernel_rfl) (fun _ _ _ h => h) (Or.inl ⟨by rfl, ?hy19⟩) (by assumption) ?rest19
            case hy19 => (intro w hSw; (try dsimp only at hSw); go_simp; try with_reducible rfl)
            try simp only [Act.put, List.setIfInBounds_toArray, List.set_cons_zero, List.set_cons_succ]
            refine wpAnyH_take (i := 20) (oi := ⟨some 113, _, _, _, _, _⟩) (v := ?v20) rfl (by kernel_rfl) (by kernel_rfl) (by kernel_rfl) (fun _ _ _ h => h) (Or.inl ⟨by rfl, ?hy20⟩) (by assumption) ?rest20
            case hy20 => (intro w hSw; (try dsimp only at hSw); go_simp; try with_reducible rfl)
            try simp only [Act.put, List.setIfInBounds_toArray, List.set_cons_zero, List.set_cons_succ]
            refine wpAnyH_take (i := 21) (oi := ⟨some 114, _, _, _, _, _⟩) (v := ?v21) rfl (by kernel_rfl) (by kernel_rfl) (by kernel_rfl) (fun _ _ _ h => h) (Or.inl ⟨by rfl, ?hy21⟩) (by assumption) ?rest21
            case hy21 => (intro w hSw; (try dsimp only at hSw); go_simp; try with_reducible rfl)
            try simp only [Act.put, List.setIfInBounds_toArray, List.set_cons_zero, List.set_cons_succ]
            refine wpAnyH_take (i := 22) (oi := ⟨some 115, _, _, _, _, _⟩) (v := ?v22) rfl (by kernel_rfl) (by kernel_rfl) (by kernel_rfl) (fun _ _ _ h => h) (Or.inl ⟨by rfl, ?hy22⟩) (by assumption) ?rest22
            case hy22 => (intro w hSw; (try dsimp only at hSw); go_simp; try with_reducible rfl)
            try simp only [Act.put, List.setIfInBounds_toArray, List.set_cons_zero, List.set_cons_succ]
            refine wpAnyH_take (i := 23) (oi := ⟨some 116, _, _, _, _, _⟩) (v := ?v23) rfl (by kernel_rfl) (by kernel_rfl) (by kernel_rfl) (fun _ _ _ h => h) (Or.inl ⟨by rfl, ?hy23⟩) (by assumption) ?rest23
            case hy23 => (intro w hSw; (try dsimp only at hSw); go_simp; try with_reducible rfl)
            try simp only [Act.put, List.setIfInBounds_toArray, List.set_cons_zero, List.set_cons_succ]
            refine wpAnyH_ready (rs := [15]) (by kernel_rfl) (by simp) (AllReadyH.cons (o := ⟨some 108, _, _, _, _, _⟩) rfl (fun K hK => ?_) AllReadyH.nil)
            go_simp
            refine (image_any hd12).mono ?_
            rintro e w13 ⟨g13, c13, r13, rfl, i1, i2, i3, i4, i5⟩
            have z1 := i5.cell y1 (by simp)
            have z2 := HQW.out w13 (HW12.out.fr i5 (by simp))
            have hlen13 : D'.bytes.length = n := by rw [HBY.out, ← HN.out, show D.bytes = L by rw [← HD.out]; rfl]; simp [splice, zero16]; have := HN.out; omega
            have m5 : (16 : Int) ≤ (D'.bytes.length : Int) := by omega
            have hc13 : D'.bytes.length ≤ c13 := by rw [← i3]; simp
            have hdrop : D'.bytes.drop 16 = L.drop 16 := by rw [HBY.out, show D.bytes = L by rw [← HD.out]; rfl]; simp [splice, zero16]
            obtain ⟨pa, hpa⟩ : ∃ a, (if c13 = 16 then some (⟨g13, 0, none⟩ : Addr) else some ⟨g13, 16, none⟩) = a := ⟨_, rfl⟩
            have z3 : (convert 31 9 (.slice pa (n - 16) (c13 - 16))).run Try.prog w13 = .ok (.string ⟨(L.drop 16).toArray⟩) w13 := by
              rw [← hdrop, ← hpa]
              split
              · refine run_conv_u8 (l := D'.bytes.drop 16) Try.underlying31 Try.underlying5 Try.underlying9 (fun j u hj => ?_) _ _ (by rw [List.length_drop, hlen13])
                have := (List.getElem?_eq_some_iff.1 hj).1
                simp at this; omega
              · refine run_conv_u8 (l := D'.bytes.drop 16) Try.underlying31 Try.underlying5 Try.underlying9 (fun j u hj => ?_) _ _ (by rw [List.length_drop, hlen13])
                rw [List.map_drop, List.getElem?_drop] at hj
                rw [add_lit]
                exact blk_cell' i2 (by rw [List.getElem?_toArray, List.getElem?_append_left (List.getElem?_eq_some_iff.1 hj).1]; exact hj)
            refine hK.out _ _ ?_ (fun hHeld => ?_)
            · exact ⟨by assumption, by assumption⟩
            clear hK K
            try simp only [Act.put, List.setIfInBounds_toArray, List.set_cons_zero, List.set_cons_succ]
            refine wpAnyH_mono2 (S' := fun w' => w'.cell? ⟨g11, 0, none⟩ = some (.int .u8 0) ∧ (convert 31 9 (.slice (some ⟨wk.g, wo + 16, none⟩) (n - 16) (wc - 16))).run Try.prog w' = .ok (.string ⟨(L.drop 16).toArray⟩) w' ∧ (convert 31 9 (.slice pa (n - 16) (c13 - 16))).run Try.prog w' = .ok (.string ⟨(L.drop 16).toArray⟩) w') (fun _ h => ⟨h.1, h.2.1⟩) _ _ _ _ ?_
            have hHeld2 : (fun w' : World => w'.cell? ⟨g11, 0, none⟩ = some (.int .u8 0) ∧ (convert 31 9 (.slice (some ⟨wk.g, wo + 16, none⟩) (n - 16) (wc - 16))).run Try.prog w' = .ok (.string ⟨(L.drop 16).toArray⟩) w' ∧ (convert 31 9 (.slice pa (n - 16) (c13 - 16))).run Try.prog w' = .ok (.string ⟨(L.drop 16).toArray⟩) w') w13 := ⟨z1, z2, z3⟩
            refine wpAnyH_take (i := 16) (oi := ⟨some 109, _, _, _, _, _⟩) (v := ?v16) rfl (by kernel_rfl) (by kernel_rfl) (by kernel_rfl) (fun _ _ _ h => h) (Or.inl ⟨by rfl, ?hy16⟩) (by assumption) ?rest16
            case hy16 => (intro w hSw; (try dsimp only at hSw); go_simp; try with_reducible rfl)
            try simp only [Act.put, List.setIfInBounds_toArray, List.set_cons_zero, List.set_cons_succ]
            refine wpAnyH_take (i := 17) (oi := ⟨some 110, _, _, _, _, _⟩) (v := ?v17) rfl (by kernel_rfl) (by kernel_rfl) (by kernel_rfl) (fun _ _ _ h => h) (Or.inl ⟨by rfl, ?hy17⟩) (by assumption) ?rest17
            case hy17 => (intro w hSw; (try dsimp only at hSw); go_simp; try with_reducible rfl)
            try simp only [Act.put, List.setIfInBounds_toArray, List.set_cons_zero, List.set_cons_succ]
            refine wpAnyH_take (i := 24) (oi := ⟨some 117, _, _, _, _, _⟩) (v := ?v24) rfl (by kernel_rfl) (by kernel_rfl) (by kernel_rfl) (fun _ _ _ h => h) (Or.inl ⟨by rfl, ?hy24⟩) (by assumption) ?rest24
            case hy24 => (intro w hSw; (try dsimp only at hSw); go_simp; try with_reducible rfl)
            try simp only [Act.put, List.setIfInBounds_toArray, List.set_cons_zero, List.set_cons_succ]
            refine wpAnyH_take (i := 25) (oi := ⟨some 118, _, _, _, _, _⟩) (v := ?v25) rfl (by kernel_rfl) (by kernel_rfl) (by kernel_rfl) (fun _ _ _ h => h) (Or.inl ⟨by rfl, ?hy25⟩) (by assumption) ?rest25
            case hy25 => (intro w hSw; (try dsimp only at hSw); go_simp; try with_reducible rfl)
            try simp only [Act.put, List.setIfInBounds_toArray, List.set_cons_zero, List.set_cons_succ]
            refine wpAnyH_take (i := 26) (oi := ⟨some 2, _, _, _, _, _⟩) (v := ?v26) rfl (by kernel_rfl) (by kernel_rfl) (by kernel_rfl) (fun _ _ _ h => h) (Or.inl ⟨by rfl, ?hy26⟩) (by assumption) ?rest26
            case hy26 => (intro w hSw; (try dsimp only at hSw); go_simp; try with_reducible rfl)
            try simp only [Act.put, List.setIfInBounds_toArray, List.set_cons_zero, List.set_cons_succ]
            refine wpAnyH_done (by kernel_rfl) ?_ _
            have HF13 := Lib.hid (HF12.out.trans i5 (by simp))
            clear i5 hlen13
            go_wp2_with fail
            go_ret
            exact ⟨rfl, HF13.out.below (Nat.le_refl _) (by simp)⟩
end Go.Proofs.Ytmdmdjolfahjbaa
