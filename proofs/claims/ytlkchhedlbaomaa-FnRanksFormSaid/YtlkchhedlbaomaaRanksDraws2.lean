/- The draws of ways that houses like, and of ways that they have. -/
import Derived.Test.YtlkchhedlbaomaaRanksDraws
namespace Go.Proofs.Ytlkchhedlbaomaa
open Go.RowKit
set_option linter.unusedVariables false

def WaysPost (k : Nat) (a : Option Addr) (len cap : Nat) (zs : List Int) (p : Nat) (w : World) (e : Ending) (w' : World) : Prop :=
  ∃ v u r ways p', e = .returned (.tuple #[v, u]) ∧ TableIn w' w.heap.size v r ∧ WaysOwn w' w.heap.size u ways ∧ RdAt w' k a len cap zs p' ∧ p' ≤ p + 200 ∧ (∃ l, ways = (playF r l).1) ∧ Only k w w'
theorem WaysOwn.lift {w : World} {lo lo' : Nat} {v : Value} {ws : List (List Int)} (h : WaysOwn w lo v ws) (hle : lo' ≤ lo) : WaysOwn w lo' v ws := by
  rcases h with h | ⟨g, vs, h1, h2, h3⟩
  · exact .inl h
  · exact .inr ⟨g, vs, h1, Nat.le_trans hle h2, ⟨h3.vl, h3.wl, h3.own, fun i hi => (h3.rows i hi).lift hle, h3.apart⟩⟩
set_option maxHeartbeats 4000000 in
theorem l92Ways_any (k : Nat) (a : Option Addr) (len' cap : Nat) (zs : List Int) (p : Nat) (w : World) (hp : p ≤ 80000) (hR : RdAt w k a len' cap zs p) :
    Calls Try.prog 67 #[.pointer (some ⟨k, 0, none⟩)] w (WaysPost k a len' cap zs p w) := by
  obtain ⟨i0, hi, hz0, hz1, hz2⟩ := info_parts info_intR
  have hkw := hR.lt
  have R := Lib.hid hR
  clear hR
  go_enter Try.func67, Try.ntmps67
  go_wp2_with fail
  refine (l92Ranks_any _ _ _ _ zs p _ (by omega) R.out).mono ?_
  rintro e w1 ⟨v, lll, p1, rfl, hl, htb, hr, hp1, hO⟩
  obtain ⟨va, vc, e', hvc, hvm⟩ := htb.grid.form
  subst e'
  have HT := Lib.hid htb
  have O1 := Lib.hid hO
  have R1 := Lib.hid hr
  have hs1 : w.heap.size ≤ w1.heap.size := hO.size
  have hk1 : k < w1.heap.size := by omega
  clear hl htb hr hO
  go_wp2_with fail
  refine (pick_any 9 _ _ _ _ zs p1 _ (by omega) (R1.out.alloc _) (by omega)).mono ?_
  rintro e w2 ⟨x, rfl, x0, x1, hr, hO, hs⟩
  obtain ⟨X, rfl⟩ : ∃ X : Nat, x = (X : Int) := ⟨x.toNat, by omega⟩
  have K2 : Hid (OwnInts w2 w1.heap.size (.slice (some ⟨w1.heap.size, 0, none⟩) 0 0) []) := Lib.hid (OwnInts.only (World.ownsRow_lit w1 #[] 0 (Nat.le_refl _) (by simp [maxLen]) rfl) hO hk1)
  have O2 := Lib.hid (((Only.refl k w1).alloc (.cells #[] 3)).trans hO)
  have R2 := Lib.hid hr
  clear hr hO hs
  go_wp2_with fail
  go_loopg [5, 6] X (fun g s5 s6 wr => ∃ (t p n oc : Nat) (oa : Option Addr) (l : List Int), s6 = .int .i64 t ∧ t = g ∧ s5 = .slice oa n oc ∧ n ≤ oc ∧ oc ≤ 9223372036854775807 ∧ n + t ≤ 8 ∧ p + t ≤ p1 + 9 ∧
    Hid (l.length = n) ∧ Hid (OwnInts wr w1.heap.size (.slice oa n oc) l) ∧ Hid (RdAt wr k a len' cap zs p) ∧ Hid (Only k w1 wr))
  case atStart => exact ⟨X, p1 + 1, 0, 0, _, [], rfl, rfl, rfl, by omega, by omega, by omega, by omega, Lib.hid rfl, K2, R2, O2⟩
  case round =>
    obtain ⟨t, p2, n, oc, oa, l, rfl, ht, rfl, hoc, hom, hnt, hpt, HL, HK, R3, O3⟩ := hrel
    have hws := O3.out.size
    by_cases hg0 : gk = 0
    · subst hg0
      subst ht
      have HT3 := Lib.hid (HT.out.only O3.out hkw)
      have hcall := specPlay_any (.slice va lll.length vc) (.slice oa n oc) lll l wr HT3.out.grid HK.out.ints
      have HC := Lib.hid hcall
      clear hcall
      go_wp2_with fail
      refine (HC.out).mono ?_
      rintro e w4 ⟨u, rfl, hu, hb⟩
      have HU := Lib.hid (hu.lift (Nat.le_trans hs1 hws))
      obtain ⟨ua, uc, e', huc, hum⟩ := hu.rowsAt.form
      subst e'
      have HB := Lib.hid hb
      clear hu hb
      go_wp2_with fail
      go_ret2
      exact ⟨_, _, lll, _, p2, rfl, HT3.out.below HB.out, HU.out, R3.out.below HB.out, by omega, ⟨_, rfl⟩, (O1.out.trans O3.out).of_own HB.out⟩
    · have ht0 : 0 < t := by omega
      have htI : (0 : Int) < (t : Int) := by omega
      have HT1 := Lib.hid ht
      clear ht
      go_wp2_with fail
      refine (pick_any 3 _ _ _ _ zs p2 _ (by omega) R3.out (by omega)).mono ?_
      rintro e w4 ⟨y, rfl, y0, y1, hr, hO, hs⟩
      have R4 := Lib.hid hr
      have O4 := Lib.hid (O3.out.trans hO)
      have K4 := Lib.hid (HK.out.only hO hk1)
      have hws4 : w1.heap.size ≤ w4.heap.size := by omega
      clear hr hO hs
      have hown := K4.out
      unfold OwnInts at hown
      rw [HL.out] at hown
      have OWN := Lib.hid hown
      clear hown
      go_wp2_with (at_builtin; refine wpList_append_own _ rfl _ _ 27 rfl w1.heap.size 3 i0 (.int .i64 0) 1 8 Try.underlying27 hi hz0 hz1 hz2 rfl (by decide) _ _ _ rfl (World.ownsRow.alloc OWN.out _) ⟨w4.heap.size, 0, none⟩ 1 1 [.int .i64 (1 + y)] rfl rfl (cell_one_new _ _ _) (by simp [Value.oneCell']) (by unfold maxLen; omega) (by omega) (by simp; omega) ?_; intro v' w6 hown6 hgrow6 _)
      obtain ⟨ra', rc', e', hr1, hr2⟩ := owns_form hown6
      have hrow : ∀ g, (Value.slice oa n oc).ownBlock = some g → w1.heap.size ≤ g := fun g hg => (World.ownsRow.lt OWN.out g hg).1
      have R6 := Lib.hid ((R4.out.alloc (.cells #[.int .i64 (1 + y)] 3)).grown hgrow6 hrow hk1)
      have O6 := Lib.hid ((O4.out.alloc (.cells #[.int .i64 (1 + y)] 3)).grown hgrow6 hrow)
      have K6 := Lib.hid (OwnInts.more HL.out hown6)
      clear hown6 hgrow6 hrow
      subst e'
      go_roundg (gk - 1)
      case measure => omega
      case rel =>
        have ht := HT1.out
        exact ⟨t - 1, p2 + 1, n + 1, rc', ra', _, by go_num, by omega, rfl, hr1, hr2, by omega, by omega, Lib.hid (by rw [List.length_append, HL.out]; rfl), K6, R6, O6⟩

def StillDraw (w : World) (e : Ending) (w' : World) : Prop :=
  ∃ v u r ways, e = .returned (.tuple #[v, u]) ∧ GridAt w' v r ∧ RowsAt w' u ways ∧ (∃ l, ways = (playF r l).1) ∧ Below w.heap.size w w'
set_option maxHeartbeats 1000000 in
theorem drawStill_any (a : Option Addr) (len cap : Nat) (zs : List Int) (w : World) (h : IsRow .u8 w a len cap zs) :
    Calls Try.prog 42 #[.slice a len cap] w (StillDraw w) := by
  obtain ⟨hm, hc⟩ := h.bounds
  have H := Lib.hid h
  clear h
  go_enter Try.func42, Try.ntmps42
  go_wp2_with fail
  refine (l6Open_any _ _ _ zs _ H.out hm hc).mono ?_
  rintro e w1 ⟨len', rfl, hw1, hr⟩
  have hO0 : Only w.heap.size w w1 := by rw [hw1]; exact (Only.refl _ _).alloc _
  have R := Lib.hid hr
  have O1 := Lib.hid hO0
  clear hr hO0 hw1
  go_wp2_with fail
  refine (l92Ways_any _ _ _ _ zs 0 _ (by omega) R.out).mono ?_
  rintro e w2 ⟨v, u, r, ways, p', rfl, ht, hu, hr, hp, hpl, hO⟩
  have hb : Below w.heap.size w w2 := (O1.out.trans hO).below (Nat.le_refl _) (Nat.le_refl _)
  obtain ⟨va, vc, e', _, _⟩ := ht.grid.form
  subst e'
  obtain ⟨ua, uc, e', _, _⟩ := hu.rowsAt.form
  subst e'
  have HT := Lib.hid ht.grid
  have HU := Lib.hid hu.rowsAt
  have HPL := Lib.hid hpl
  clear ht hu hr hO hpl
  go_wp2_with fail
  go_ret2
  exact ⟨_, _, r, ways, rfl, HT.out, HU.out, HPL.out, hb⟩

def PickDraw (w : World) (e : Ending) (w' : World) : Prop :=
  ∃ v u r ways, ∃ h : Nat, e = .returned (.tuple #[v, u, .int .i64 ((h : Int) + 1)]) ∧ h ≤ 5 ∧ GridAt w' v r ∧ RowsAt w' u ways ∧ (∃ l, ways = (playF r l).1) ∧ Below w.heap.size w w'
set_option maxHeartbeats 1000000 in
theorem drawPick_any (a : Option Addr) (len cap : Nat) (zs : List Int) (w : World) (h : IsRow .u8 w a len cap zs) :
    Calls Try.prog 35 #[.slice a len cap] w (PickDraw w) := by
  obtain ⟨hm, hc⟩ := h.bounds
  have H := Lib.hid h
  clear h
  go_enter Try.func35, Try.ntmps35
  go_wp2_with fail
  refine (l6Open_any _ _ _ zs _ H.out hm hc).mono ?_
  rintro e w1 ⟨len', rfl, hw1, hr⟩
  have hO0 : Only w.heap.size w w1 := by rw [hw1]; exact (Only.refl _ _).alloc _
  have hs1 : w.heap.size < w1.heap.size := by rw [hw1]; simp
  have R := Lib.hid hr
  have O1 := Lib.hid hO0
  clear hr hO0 hw1
  go_wp2_with fail
  refine (l92Ways_any _ _ _ _ zs 0 _ (by omega) R.out).mono ?_
  rintro e w2 ⟨v, u, r, ways, p', rfl, ht, hu, hr, hp, hpl, hO⟩
  obtain ⟨va, vc, e', _, _⟩ := ht.grid.form
  subst e'
  obtain ⟨ua, uc, e', _, _⟩ := hu.rowsAt.form
  subst e'
  have O2 := Lib.hid (O1.out.trans hO)
  have HT := Lib.hid ht
  have HU := Lib.hid hu
  have R2 := Lib.hid hr
  have HPL := Lib.hid hpl
  clear ht hu hr hO hpl
  go_wp2_with fail
  refine (pick_any 3 _ _ _ _ zs p' _ (by omega) R2.out (by omega)).mono ?_
  rintro e w4 ⟨y, rfl, y0, y1, hr, hO, hs⟩
  have R4 := Lib.hid hr
  have O4 := Lib.hid (O2.out.trans hO)
  have HT4 := Lib.hid (HT.out.only hO hs1)
  have HU4 := Lib.hid (HU.out.only hO hs1)
  clear hr hO hs
  go_wp2_with fail
  refine (pick_any 24 _ _ _ _ zs (p' + 1) _ (by omega) R4.out (by omega)).mono ?_
  rintro e w5 ⟨z, rfl, z0, z1, hr, hO, hs⟩
  have O5 := Lib.hid (O4.out.trans hO)
  have HT5 := Lib.hid (HT4.out.only hO hs1).grid
  have HU5 := Lib.hid (HU4.out.only hO hs1).rowsAt
  clear hr hO hs
  have zd : 0 ≤ z / 23 ∧ z / 23 ≤ 1 := by omega
  go_wp2_with fail
  go_ret3
  exact ⟨_, _, r, ways, (y + z / 23 * 3).toNat, by congr 3; simp; omega, by omega, HT5.out, HU5.out, HPL.out, O5.out.below (Nat.le_refl _) (Nat.le_refl _)⟩
end Go.Proofs.Ytlkchhedlbaomaa
