/- Plain words for flaps that come one behind the other. -/
import Derived.Test.YtbjonkjigfnnnaaDampFlap
namespace Go.Proofs.Ytbjonkjigfnnnaa
open Go.RowKit
set_option linter.unusedVariables false

/-- a pain: how much, when, whether held back -/
abbrev Pain := Int × Int × Bool
def flapD (d : Pain) (n : Int) : Pain := (flapP d.1 d.2.1 d.2.2 n, nowT d.1 d.2.1 d.2.2 n, flapO d.1 d.2.1 d.2.2 n)
def okD (d : Pain) (n : Int) : Bool := okNow d.1 d.2.1 d.2.2 n
/-- whether a time is ahead of the one before -/
def early (prev : Option Int) (n : Int) : Bool := match prev with | none => false | some m => decide (n < m)
def playFrom (d : Pain) (prev : Option Int) : List Int → Option Pain
  | [] => some d
  | n :: r => if okD d n && !early prev n then playFrom (flapD d n) (some n) r else none
def zeroD : Pain := (0, 0, false)
/-- what a play comes to, and whether it is one -/
def playD (l : List Int) : Pain × Bool := match playFrom zeroD none l with | none => (zeroD, false) | some d => (d, decide (l.length ≤ 30))

theorem playFrom_nil (d : Pain) (prev : Option Int) : playFrom d prev [] = some d := rfl
theorem playFrom_bad {d : Pain} {prev : Option Int} {n : Int} {r : List Int} (h : (okD d n && !early prev n) = false) : playFrom d prev (n :: r) = none := by simp [playFrom, h]
theorem playFrom_good {d : Pain} {prev : Option Int} {n : Int} {r : List Int} (h : (okD d n && !early prev n) = true) : playFrom d prev (n :: r) = playFrom (flapD d n) (some n) r := by simp [playFrom, h]
theorem playD_none {l : List Int} (h : playFrom zeroD none l = none) : playD l = (zeroD, false) := by simp [playD, h]
theorem playD_some {l : List Int} {d : Pain} (h : playFrom zeroD none l = some d) : playD l = (d, decide (l.length ≤ 30)) := by simp [playD, h]

/-- the time ahead of the k-th -/
def prevAt (zs : List Int) (k : Nat) : Option Int := if k = 0 then none else some (zs.getD (k - 1) 0)

theorem prevAt_succ (zs : List Int) (k : Nat) : prevAt zs (k + 1) = some (zs.getD k 0) := by simp [prevAt]

theorem drop_take (zs : List Int) (len k : Nat) (hl : len ≤ zs.length) (hk : k < len) : (zs.take len).drop k = zs.getD k 0 :: (zs.take len).drop (k + 1) := by
  have h1 : k < (zs.take len).length := by simp; omega
  rw [List.drop_eq_getElem_cons h1]
  simp [List.getElem?_eq_getElem (show k < zs.length by omega)]

theorem IsRow.at {k : IntKind} {w : World} {a : Option Addr} {len cap : Nat} {zs : List Int} (h : IsRow k w a len cap zs) (hl : 0 < len) :
    ∃ b off, a = some ⟨b, off, none⟩ ∧ (∀ i, i < len → w.cell? ⟨b, off + i, none⟩ = some (.int k (zs.getD i 0))) ∧ b < w.heap.size ∧ len ≤ zs.length := by
  rcases h with ⟨_, e, _⟩ | ⟨⟨b, off, spot⟩, rfl, h1, h2, h3, h4, h5⟩
  · omega
  · have hspot : spot = none := by simpa [Addr.add] using World.cell?_spot (h4 0 (by omega))
    subst hspot
    refine ⟨b, off, rfl, fun i hi => ?_, ?_, by omega⟩
    · have := h4 i (by omega); rw [add_at] at this; exact this
    · have := lt_of_cell (h4 0 (by omega)); rwa [add_block] at this
end Go.Proofs.Ytbjonkjigfnnnaa
