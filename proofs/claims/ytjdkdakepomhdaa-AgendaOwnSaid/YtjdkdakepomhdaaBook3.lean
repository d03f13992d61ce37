/- A Book: what is kept, and the copies beside it. No program in sight. -/
import Derived.Test.YtjdkdakepomhdaaBook2
namespace Go.Proofs.Ytjdkdakepomhdaa
open Go.RowKit

/-- A part of a Book: the lists, their copies, the rows that hold them. -/
structure Prt where
  ks : List (Option Kp)
  ws : List (Option Kp)
  r0 : Option Kp
  r1 : Option Kp
def Prt.nil : Prt := ⟨[], [], none, none⟩
def Prt.blocks (p : Prt) : List Nat := kg p.r0 ++ kg p.r1 ++ p.ks.flatMap kg ++ p.ws.flatMap kg
structure IsPart (w : World) (E T : TypeId) (Good : Value → Prop) (p : Prt) : Prop where
  kept : ∀ (j : Nat) (k : Option Kp), p.ks[j]? = some k → kok w E k
  want : ∀ (j : Nat) (k : Option Kp), p.ws[j]? = some k → kok w E k
  same : p.ks.map kl = p.ws.map kl
  row : kok w T p.r0
  rowl : kl p.r0 = p.ks.map kval
  row' : kok w T p.r1
  rowl' : kl p.r1 = p.ws.map kval
  apart : Apart p.ks
  others : ∀ x ∈ p.ks.flatMap kg, x ∉ p.ws.flatMap kg
  rows : ∀ x ∈ kg p.r0, x ∉ kg p.r1
  small : ∀ (j : Nat) (k : Option Kp), p.ks[j]? = some k → (kl k).length ≤ 1073741824
  good : ∀ (j : Nat) (k : Option Kp), p.ks[j]? = some k → ∀ v ∈ kl k, Good v
theorem Prt.mem {p : Prt} {x : Nat} : x ∈ p.blocks ↔ x ∈ kg p.r0 ∨ x ∈ kg p.r1 ∨ x ∈ p.ks.flatMap kg ∨ x ∈ p.ws.flatMap kg := by
  simp only [Prt.blocks, List.mem_append, or_assoc]
theorem IsPart.nil (w : World) (E T : TypeId) (Good : Value → Prop) : IsPart w E T Good Prt.nil :=
  ⟨fun _ _ h => by simp [Prt.nil] at h, fun _ _ h => by simp [Prt.nil] at h, rfl, trivial, rfl, trivial, rfl, fun i j k k' _ h => by simp [Prt.nil] at h, fun _ h => by simp [Prt.nil] at h, fun _ h => by simp [Prt.nil, kg] at h, fun _ _ h => by simp [Prt.nil] at h, fun _ _ h => by simp [Prt.nil] at h⟩
theorem IsPart.fr {S : List Nat} {w w' : World} {E T : TypeId} {Good : Value → Prop} {p : Prt} (h : IsPart w E T Good p) (hf : Fr S w w') (hS : ∀ x ∈ p.blocks, x ∉ S) : IsPart w' E T Good p :=
  ⟨fun j k hk => (h.kept j k hk).fr hf (fun x hx => hS x (Prt.mem.2 (Or.inr (Or.inr (Or.inl (mem_flat hk x hx)))))),
   fun j k hk => (h.want j k hk).fr hf (fun x hx => hS x (Prt.mem.2 (Or.inr (Or.inr (Or.inr (mem_flat hk x hx)))))), h.same,
   h.row.fr hf (fun x hx => hS x (Prt.mem.2 (Or.inl hx))), h.rowl, h.row'.fr hf (fun x hx => hS x (Prt.mem.2 (Or.inr (Or.inl hx)))), h.rowl', h.apart, h.others, h.rows, h.small, h.good⟩
theorem IsPart.blk {w : World} {E T : TypeId} {Good : Value → Prop} {p : Prt} (h : IsPart w E T Good p) : ∀ x ∈ p.blocks, Blk w E x ∨ Blk w T x := fun x hx => by
  rcases Prt.mem.1 hx with hx | hx | hx | hx
  · exact Or.inr (h.row.blk x hx)
  · exact Or.inr (h.row'.blk x hx)
  · exact Or.inl (flat_blk h.kept x hx)
  · exact Or.inl (flat_blk h.want x hx)

theorem apart_snoc {ks : List (Option Kp)} {k : Option Kp} (h : Apart ks) (hk : ∀ x ∈ kg k, x ∉ ks.flatMap kg) : Apart (ks ++ [k]) := fun i j a b hij hi hj x hx hx' => by
  rw [List.getElem?_append] at hi hj
  split at hi
  · split at hj
    · exact h i j a b hij hi hj x hx hx'
    · have h1 := (List.getElem?_eq_some_iff.1 hj).1
      simp only [List.length_singleton] at h1
      obtain rfl : k = b := by simpa [show j - ks.length = 0 by omega] using hj
      exact hk x hx' (mem_flat hi x hx)
  · have h0 := (List.getElem?_eq_some_iff.1 hi).1
    simp only [List.length_singleton] at h0
    obtain rfl : k = a := by simpa [show i - ks.length = 0 by omega] using hi
    split at hj
    · exact hk x hx (mem_flat hj x hx')
    · have h1 := (List.getElem?_eq_some_iff.1 hj).1
      simp only [List.length_singleton] at h1
      omega
theorem snoc_at {α : Type} {P : α → Prop} {l : List α} {a : α} (h : ∀ (j : Nat) (x : α), l[j]? = some x → P x) (ha : P a) : ∀ (j : Nat) (x : α), (l ++ [a])[j]? = some x → P x := fun j x hx => by
  rw [List.getElem?_append] at hx
  split at hx
  · exact h j x hx
  · have h1 := (List.getElem?_eq_some_iff.1 hx).1
    simp only [List.length_singleton] at h1
    obtain rfl : a = x := by simpa [show j - l.length = 0 by omega] using hx
    exact ha

/-- One more list, and its copy. -/
theorem IsPart.push {w w' : World} {g : Nat} {E T G : TypeId} {Good : Value → Prop} {p : Prt} (h : IsPart w E T Good p) (hET : E ≠ T) (hEG : E ≠ G) (hg : Blk w G g) {k k' r0' r1' : Option Kp}
    (hk : kok w E k) (hkn : ∀ x ∈ kg k, x ∉ p.blocks) (hsm : (kl k).length ≤ 1073741824) (hgd : ∀ v ∈ kl k, Good v) (hf : Fr (g :: (kg p.r0 ++ kg p.r1)) w w')
    (hr0 : kok w' T r0') (hl0 : kl r0' = kl p.r0 ++ [kval k]) (hr1 : kok w' T r1') (hl1 : kl r1' = kl p.r1 ++ [kval k']) (hrr : ∀ x ∈ kg r0', x ∉ kg r1')
    (hk' : kok w' E k') (hkl : kl k' = kl k) (hkg : ∀ x ∈ kg k', w.heap.size ≤ x) : IsPart w' E T Good ⟨p.ks ++ [k], p.ws ++ [k'], r0', r1'⟩ := by
  have hS : ∀ x, Blk w E x → x ∉ g :: (kg p.r0 ++ kg p.r1) := fun x hx hm => by
    rcases List.mem_cons.1 hm with rfl | hm
    · exact hx.ne hg hEG rfl
    · rcases List.mem_append.1 hm with hm | hm
      · exact far h.row.blk hET hx hm
      · exact far h.row'.blk hET hx hm
  refine ⟨snoc_at (fun j x hx => (h.kept j x hx).fr hf (fun y hy => hS y ((h.kept j x hx).blk y hy))) (hk.fr hf (fun y hy => hS y (hk.blk y hy))),
    snoc_at (fun j x hx => (h.want j x hx).fr hf (fun y hy => hS y ((h.want j x hx).blk y hy))) hk', ?_, hr0, ?_, hr1, ?_, ?_, ?_, hrr, snoc_at h.small hsm, snoc_at h.good hgd⟩
  · simp only [List.map_append, h.same, List.map_cons, List.map_nil, hkl]
  · rw [hl0, h.rowl, List.map_append]; rfl
  · rw [hl1, h.rowl', List.map_append]; rfl
  · exact apart_snoc h.apart (fun x hx hm => hkn x hx (Prt.mem.2 (Or.inr (Or.inr (Or.inl hm)))))
  · intro x hx hx'
    simp only [List.flatMap_append, List.flatMap_cons, List.flatMap_nil, List.append_nil, List.mem_append] at hx hx'
    rcases hx with hx | hx
    · rcases hx' with hx' | hx'
      · exact h.others x hx hx'
      · have := hkg x hx'
        have := (flat_blk h.kept x hx).lt
        omega
    · rcases hx' with hx' | hx'
      · exact hkn x hx (Prt.mem.2 (Or.inr (Or.inr (Or.inr hx'))))
      · have := hkg x hx'
        have := (hk.blk x hx).lt
        omega

/-- A Book. -/
structure Bk where
  u : Prt
  i : Prt
  t : Prt
  n : Int
def Bk.cells (B : Bk) : List Value := [kval B.u.r0, kval B.u.r1, .slice none 0 0, .slice none 0 0, kval B.i.r0, kval B.i.r1, .slice none 0 0, .slice none 0 0, kval B.t.r0, kval B.t.r1, .slice none 0 0, .slice none 0 0, .int .i64 B.n]
def Bk.blocks (g : Nat) (B : Bk) : List Nat := g :: (B.u.blocks ++ (B.i.blocks ++ B.t.blocks))
def GoodU (v : Value) : Prop := ∃ b : UInt8, v = u8v b
def GoodI (v : Value) : Prop := ∃ x : Int, v = .int .i64 x
def GoodT (v : Value) : Prop := ∃ x : ByteArray, v = .string x
def Bk.nil : Bk := ⟨Prt.nil, Prt.nil, Prt.nil, 0⟩
structure IsBook (w : World) (g : Nat) (B : Bk) : Prop where
  blk : w.heap[g]? = some (.cells B.cells.toArray 55 (0, 0))
  u : IsPart w 5 89 GoodU B.u
  i : IsPart w 3 40 GoodI B.i
  t : IsPart w 9 91 GoodT B.t
  n0 : 0 ≤ B.n
  n1 : B.n ≤ 1073941826
  nu : (B.u.ks.length : Int) ≤ B.n
  ni : (B.i.ks.length : Int) ≤ B.n
  nt : (B.t.ks.length : Int) ≤ B.n
theorem Bk.mem {B : Bk} {g x : Nat} : x ∈ B.blocks g ↔ x = g ∨ x ∈ B.u.blocks ∨ x ∈ B.i.blocks ∨ x ∈ B.t.blocks := by
  simp only [Bk.blocks, List.mem_cons, List.mem_append]
theorem IsBook.fr {S : List Nat} {w w' : World} {g : Nat} {B : Bk} (h : IsBook w g B) (hf : Fr S w w') (hS : ∀ x ∈ B.blocks g, x ∉ S) : IsBook w' g B :=
  ⟨hf.heap h.blk (hS g (Bk.mem.2 (Or.inl rfl))), h.u.fr hf (fun x hx => hS x (Bk.mem.2 (Or.inr (Or.inl hx)))), h.i.fr hf (fun x hx => hS x (Bk.mem.2 (Or.inr (Or.inr (Or.inl hx))))), h.t.fr hf (fun x hx => hS x (Bk.mem.2 (Or.inr (Or.inr (Or.inr hx))))), h.n0, h.n1, h.nu, h.ni, h.nt⟩
theorem IsBook.lt {w : World} {g : Nat} {B : Bk} (h : IsBook w g B) : ∀ x ∈ B.blocks g, x < w.heap.size := fun x hx => by
  have hp : ∀ {E T : TypeId} {Good : Value → Prop} {p : Prt}, IsPart w E T Good p → ∀ x ∈ p.blocks, x < w.heap.size := fun hq x hx => by
    rcases hq.blk x hx with h | h <;> exact h.lt
  rcases Bk.mem.1 hx with rfl | hx | hx | hx
  · exact lt_of_heap h.blk
  · exact hp h.u x hx
  · exact hp h.i x hx
  · exact hp h.t x hx
theorem IsBook.cellAt {w : World} {g : Nat} {B : Bk} (h : IsBook w g B) {j : Nat} {v : Value} (hj : B.cells[j]? = some v) : w.cell? ⟨g, j, none⟩ = some v := by
  rw [blk_cell h.blk, List.getElem?_toArray]; exact hj
theorem IsBook.free {w : World} {g : Nat} {B : Bk} (h : IsBook w g B) (j : Nat) : w.frozen? ⟨g, j, none⟩ = false := blk_free h.blk j
/-- A new Book. -/
theorem IsBook.new {w : World} {g : Nat} (h : w.heap[g]? = some (.cells Bk.nil.cells.toArray 55 (0, 0))) : IsBook w g Bk.nil :=
  ⟨h, IsPart.nil _ _ _ _, IsPart.nil _ _ _ _, IsPart.nil _ _ _ _, by decide, by decide, by decide, by decide, by decide⟩
end Go.Proofs.Ytjdkdakepomhdaa
