/- The plain law of FnDampPlay: one more flap behind a play, later and earlier. -/
import Derived.Test.YtbjonkjigfnnnaaDampDraws
namespace Go.Proofs.Ytbjonkjigfnnnaa
set_option linter.unusedVariables false

/-- the time of the last flap -/
def lastOf (prev : Option Int) : List Int → Option Int
  | [] => prev
  | n :: r => lastOf (some n) r
theorem lastOf_append (l : List Int) (n : Int) : ∀ prev, lastOf prev (l ++ [n]) = some n := by
  induction l with
  | nil => intro prev; rfl
  | cons m r ih => intro prev; exact ih _
theorem playFrom_append (l : List Int) (n : Int) : ∀ (d : Pain) (prev : Option Int), playFrom d prev (l ++ [n]) = match playFrom d prev l with | none => none | some e => if okD e n && !early (lastOf prev l) n then some (flapD e n) else none := by
  induction l with
  | nil => intro d prev; simp [playFrom, lastOf]
  | cons m r ih =>
    intro d prev
    rw [List.cons_append]
    cases h : (okD d m && !early prev m)
    · rw [playFrom_bad h, playFrom_bad h]
    · rw [playFrom_good h, playFrom_good h, ih]; rfl
theorem playFrom_last (l : List Int) : ∀ (d : Pain) (prev : Option Int) (e : Pain) (m : Int), playFrom d prev l = some e → (∀ x, prev = some x → 0 ≤ x ∧ x ≤ 99) → lastOf prev l = some m → 0 ≤ m ∧ m ≤ 99 := by
  induction l with
  | nil => intro d prev e m h hp hm; exact hp m hm
  | cons n r ih =>
    intro d prev e m h hp hm
    cases hk : (okD d n && !early prev n)
    · rw [playFrom_bad hk] at h; simp at h
    · rw [playFrom_good hk] at h
      refine ih _ _ _ m h ?_ hm
      intro x hx
      simp only [Option.some.injEq] at hx
      subst hx
      simp at hk
      obtain ⟨hk, _⟩ := hk
      have hk : okNow d.1 d.2.1 d.2.2 n = true := hk
      simp [okNow] at hk
      obtain ⟨_, _, _, _, _, _⟩ := okB_in hk.1.1
      omega
theorem lastOf_get (l : List Int) (hl : 0 < l.length) : ∀ prev, lastOf prev l = some (l.getD (l.length - 1) 0) := by
  induction l with
  | nil => simp at hl
  | cons n r ih =>
    intro prev
    cases r with
    | nil => rfl
    | cons m s =>
      rw [lastOf, ih (by simp)]
      simp
/-- A play of few flaps that is one, and its last time: what comes of one more flap. -/
theorem playD_more {l : List Int} {D : Pain} {m : Int} (h : playD l = (D, true)) (hm : l.getD (l.length - 1) 0 = m) (hl : 0 < l.length) (h7 : l.length ≤ 7) :
    0 ≤ m ∧ m ≤ 99 ∧ fine D ∧ (playD (l ++ [m - 1])).2 = false ∧
    playD (l ++ [m + 3]) = (flapD D (m + 3), okD D (m + 3)) := by
  have hlast := lastOf_get l hl none
  rw [hm] at hlast
  have hf := playD_fine l
  rw [h] at hf
  cases hp : playFrom zeroD none l with
  | none => rw [playD_none hp] at h; simp at h
  | some e =>
    rw [playD_some hp] at h
    simp only [Prod.mk.injEq] at h
    obtain ⟨rfl, _⟩ := h
    obtain ⟨m0, m1⟩ := playFrom_last l _ _ _ m hp (by simp) hlast
    have hlen : ∀ x : Int, (l ++ [x]).length ≤ 30 := by intro x; simp; omega
    refine ⟨m0, m1, hf, ?_, ?_⟩
    · have := playFrom_append l (m - 1) zeroD none
      rw [hp, hlast] at this
      simp only at this
      rw [if_neg (by simp [early]; omega)] at this
      rw [playD_none this]
    · have := playFrom_append l (m + 3) zeroD none
      rw [hp, hlast] at this
      simp only at this
      have he : early (some m) (m + 3) = false := by simp [early]; omega
      rw [he] at this
      cases hk : okD e (m + 3)
      · rw [hk] at this
        rw [playD_none this]
        have hk' : okNow e.1 e.2.1 e.2.2 (m + 3) = false := hk
        unfold flapD
        rw [flapP_no hk', nowT_no hk', flapO_no hk']
        rfl
      · rw [hk] at this
        rw [playD_some this]
        have := hlen (m + 3)
        simp at this ⊢
        omega
end Go.Proofs.Ytbjonkjigfnnnaa
