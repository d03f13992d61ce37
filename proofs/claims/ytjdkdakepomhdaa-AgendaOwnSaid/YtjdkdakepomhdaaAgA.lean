/- Package agenda: an entry, the order of two entries. -/
import Derived.Test.YtjdkdakepomhdaaProg
import Derived.Test.YtjdkdakepomhdaaLib
import Derived.Deep.QuietTactic
import Derived.Deep.RegionHeld3
import Derived.Deep.LoopGhost
namespace Go.Proofs.Ytjdkdakepomhdaa
open Go.RowKit

/-- An entry: its block, its id, its time, when it was set. -/
structure Ent where
  blk : Nat
  id : Int
  tm : Int
  turn : Int
deriving DecidableEq

def Ent.ptr (e : Ent) : Value := .pointer (some ⟨e.blk, 0, none⟩)
def Ent.cells (e : Ent) (p : Int) : Array Value := #[.int .i64 e.id, .int .i64 e.tm, .int .i64 e.turn, .int .i64 p]
def Ent.Lies (w : World) (e : Ent) (p : Int) : Prop := w.heap[e.blk]? = some (.cells (e.cells p) 74 (0, 0))

def cmpI (a b : Int) : Int := if a < b then -1 else if b < a then 1 else 0
def ordI (a b : Int) (c d : Int) : Int := if cmpI a b = 0 then cmpI c d else cmpI a b
def Ent.lt (e f : Ent) : Prop := e.tm < f.tm ∨ (e.tm = f.tm ∧ e.turn < f.turn)
instance (e f : Ent) : Decidable (e.lt f) := by unfold Ent.lt; exact inferInstance
theorem ordI_lt (e f : Ent) : decide (ordI e.tm f.tm e.turn f.turn < 0) = decide (e.lt f) := by
  apply decide_eq_decide.2
  unfold ordI cmpI Ent.lt
  split <;> rename_i h <;> repeat' split at h
  all_goals first | omega | (repeat' split) <;> omega

theorem nan_any (w : World) (x : Int) : Calls Try.prog 62 #[.int .i64 x] w fun e w' => e = .returned (.bool false) ∧ w = w' := by
  have h : (x != x) = false := by simp
  go_enter Try.func62, Try.ntmps62
  go_wp2
  go_ret
  exact ⟨rfl, rfl⟩

theorem cmp_any (w : World) (a b : Int) : Calls Try.prog 51 #[.int .i64 a, .int .i64 b] w fun e w' => e = .returned (.int .i64 (cmpI a b)) ∧ w = w' := by
  by_cases h1 : a < b
  · have d1 : decide (a < b) = true := by simpa using h1
    have e1 : cmpI a b = -1 := by simp [cmpI, h1]
    rw [e1]
    go_enter Try.func51, Try.ntmps51
    go_wp2_with (go_at_call 62; refine (nan_any _ _).mono ?_; rintro e w' ⟨rfl, rfl⟩)
    go_ret
    exact ⟨rfl, rfl⟩
  · have d1 : decide (a < b) = false := by simpa using h1
    by_cases h2 : b < a
    · have d2 : decide (b < a) = true := by simpa using h2
      have e1 : cmpI a b = 1 := by simp [cmpI, h1, h2]
      rw [e1]
      go_enter Try.func51, Try.ntmps51
      go_wp2_with (go_at_call 62; refine (nan_any _ _).mono ?_; rintro e w' ⟨rfl, rfl⟩)
      go_ret
      exact ⟨rfl, rfl⟩
    · have d2 : decide (b < a) = false := by simpa using h2
      have e1 : cmpI a b = 0 := by simp [cmpI, h1, h2]
      rw [e1]
      go_enter Try.func51, Try.ntmps51
      go_wp2_with (go_at_call 62; refine (nan_any _ _).mono ?_; rintro e w' ⟨rfl, rfl⟩)
      go_ret
      exact ⟨rfl, rfl⟩

theorem or_any (w : World) (b : Nat) (x y : Int) (h0 : w.cell? ⟨b, 0, none⟩ = some (.int .i64 x)) (h1 : w.cell? ⟨b, 1, none⟩ = some (.int .i64 y)) :
    Calls Try.prog 50 #[.slice (some ⟨b, 0, none⟩) 2 2] w fun e w' => e = .returned (.int .i64 (if x = 0 then y else x)) ∧ w = w' := by
  by_cases hx : x = 0
  · subst hx
    rw [if_pos rfl]
    go_enter Try.func50, Try.ntmps50
    go_wp2_with fail
    go_loopg [8] 2 (fun left s8 wr => ∃ i : Nat, i ≤ 2 ∧ left = 2 - i ∧ s8 = .int .i64 i ∧ wr = w ∧ (i = 2 → y = 0))
    case atStart => exact ⟨0, by omega, rfl, rfl, rfl, by omega⟩
    case round =>
      obtain ⟨i, hi, rfl, rfl, rfl, hy⟩ := hrel
      obtain rfl | rfl | rfl : i = 0 ∨ i = 1 ∨ i = 2 := by omega
      · go_wp2_with fail
        go_roundg 1
        case rel => exact ⟨1, by omega, rfl, rfl, rfl, by omega⟩
        case measure => omega
      · by_cases h2 : y = 0
        · subst h2
          go_wp2_with fail
          go_roundg 0
          case rel => exact ⟨2, by omega, rfl, rfl, rfl, by simp⟩
          case measure => omega
        · have hb : (y != 0) = true := by simpa using h2
          go_wp2_with fail
          go_ret
          exact ⟨rfl, rfl⟩
      · have := hy rfl
        subst this
        go_wp2_with fail
        go_ret
        exact ⟨rfl, rfl⟩
  · have hb : (x != 0) = true := by simpa using hx
    rw [if_neg hx]
    go_enter Try.func50, Try.ntmps50
    go_wp2_with fail
    go_loopg [8] 2 (fun left s8 wr => left = 2 ∧ s8 = .int .i64 0 ∧ wr = w)
    case atStart => exact ⟨rfl, rfl, rfl⟩
    case round =>
      obtain ⟨rfl, rfl, rfl⟩ := hrel
      go_wp2_with fail
      go_ret
      exact ⟨rfl, rfl⟩


theorem Ent.Lies.c0 {w : World} {e : Ent} {p : Int} (h : e.Lies w p) : w.cell? ⟨e.blk, 0, none⟩ = some (.int .i64 e.id) := blk_cell' h rfl
theorem Ent.Lies.c1 {w : World} {e : Ent} {p : Int} (h : e.Lies w p) : w.cell? ⟨e.blk, 1, none⟩ = some (.int .i64 e.tm) := blk_cell' h rfl
theorem Ent.Lies.c2 {w : World} {e : Ent} {p : Int} (h : e.Lies w p) : w.cell? ⟨e.blk, 2, none⟩ = some (.int .i64 e.turn) := blk_cell' h rfl
theorem Ent.Lies.c3 {w : World} {e : Ent} {p : Int} (h : e.Lies w p) : w.cell? ⟨e.blk, 3, none⟩ = some (.int .i64 p) := blk_cell' h rfl

set_option maxHeartbeats 1000000 in
/-- e.order(f). -/
theorem order_any (w : World) (b c : Nat) (t1 t2 s1 s2 : Int) (hb1 : w.cell? ⟨b, 1, none⟩ = some (.int .i64 t1)) (hb2 : w.cell? ⟨b, 2, none⟩ = some (.int .i64 s1)) (hc1 : w.cell? ⟨c, 1, none⟩ = some (.int .i64 t2)) (hc2 : w.cell? ⟨c, 2, none⟩ = some (.int .i64 s2)) :
    Calls Try.prog 38 #[.pointer (some ⟨b, 0, none⟩), .pointer (some ⟨c, 0, none⟩)] w fun e w' => e = .returned (.int .i64 (ordI t1 t2 s1 s2)) ∧ Fr [] w w' := by
  have hq : (if cmpI t1 t2 = 0 then cmpI s1 s2 else cmpI t1 t2) = ordI t1 t2 s1 s2 := rfl
  go_enter Try.func38, Try.ntmps38
  go_wp2_with fail
  go_region_held3 (fun w' => w'.cell? ⟨b, 1, none⟩ = some (.int .i64 t1) ∧ w'.cell? ⟨b, 2, none⟩ = some (.int .i64 s1) ∧ w'.cell? ⟨c, 1, none⟩ = some (.int .i64 t2) ∧ w'.cell? ⟨c, 2, none⟩ = some (.int .i64 s2) ) (first | go_keep) (first | (go_at_call 51; refine (cmp_any _ _ _).mono ?_; rintro e w' ⟨rfl, rfl⟩) | (go_at_call 50; refine (or_any _ w.heap.size _ _ (by first | exact blk_cell' (heap_new w.drew _) rfl) (by first | exact blk_cell' (heap_new w.drew _) rfl)).mono ?_; rw [hq]; rintro e w' ⟨rfl, rfl⟩))
  go_wp2_with fail
  go_ret
  exact ⟨rfl, ((Fr.refl _ _).alloc _).drew⟩
end Go.Proofs.Ytjdkdakepomhdaa
