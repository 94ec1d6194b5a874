/- The draws of the Ranks laws. -/
import Derived.Test.YtbbhnnbpeiodnaaDoorRanksDraw
import Derived.Test.YtbbhnnbpeiodnaaDoorRanksPlayS
namespace Go.Proofs.YtbbhnnbpeiodnaaDoor
open Go.RowKit
set_option linter.unusedVariables false
set_option maxRecDepth 100000

theorem OwnInts.only {w w' : World} {lo k : Nat} {v : Value} {l : List Int} (h : OwnInts w lo v l) (ho : Only k w w') (hk : k < lo) : OwnInts w' lo v l := owns_only h ho hk
theorem Ways.only {w w' : World} {g lo k : Nat} {vs : List Value} {ws : List (List Int)} (h : Ways w g lo vs ws) (ho : Only k w w') (hk : k < lo) (hg : k < g) : Ways w' g lo vs ws :=
  ⟨h.vl, h.wl, owns_only h.own ho hg, fun i hi => (h.rows i hi).only ho hk, h.apart⟩
theorem WaysOwn.only {w w' : World} {lo k : Nat} {v : Value} {ws : List (List Int)} (h : WaysOwn w lo v ws) (ho : Only k w w') (hk : k < lo) : WaysOwn w' lo v ws := by
  rcases h with h | ⟨g, vs, h1, h2, h3⟩
  · exact .inl h
  · exact .inr ⟨g, vs, h1, h2, h3.only ho hk (by omega)⟩
theorem Only.of_own {k : Nat} {a w w' : World} (h : Only k a w) (hb : Below w.heap.size w w') : Only k a w' := h.trans (Only.of_below hb)
/-- one number more behind a new list of numbers -/
theorem OwnInts.more {w1 : World} {lo : Nat} {v' : Value} {l : List Int} {x : Int} {n : Nat} (hl : l.length = n) (h : w1.ownsRow lo 3 1 v' (n + 1) (l.map (Value.int .i64) ++ [.int .i64 x])) : OwnInts w1 lo v' (l ++ [x]) := by
  unfold OwnInts
  rw [List.length_append, hl, List.map_append]
  exact h

theorem owns_some {w : World} {lo n : Nat} {T : TypeId} {v : Value} {us : List Value} (h : w.ownsRow lo T 1 v (n + 1) us) : ∃ g cap, v = .slice (some ⟨g, 0, none⟩) (n + 1) cap ∧ n + 1 ≤ cap ∧ cap ≤ 9223372036854775807 := by
  rcases h.2 with ⟨rfl, hn⟩ | ⟨g, cap, cur, rfl, hb, hg, hnc, hcm, hcs, htake⟩
  · omega
  · exact ⟨g, cap, rfl, hnc, by unfold maxLen at hcm; exact hcm⟩
def GridPost (w : World) (e : Ending) (w' : World) : Prop := ∃ v r, e = .returned v ∧ GridAt w' v r ∧ Below w.heap.size w w'
theorem GridAt.drop1 {w : World} {b off n cap : Nat} {l : List (List (List Int))} (h : GridAt w (.slice (some ⟨b, off, none⟩) n cap) l) (h1 : 1 ≤ n) : GridAt w (.slice (some ⟨b, off + 1, none⟩) (n - 1) (cap - 1)) (l.drop 1) := by
  obtain ⟨rfl, hc, hm⟩ := h.len
  obtain ⟨f, ⟨a', cap', e, hc', hm', g⟩, hr⟩ := h
  simp only [Value.slice.injEq] at e
  obtain ⟨rfl, _, rfl⟩ := e
  have hl : (l.drop 1).length = l.length - 1 := by simp
  refine ⟨fun i => f (i + 1), ⟨some ⟨b, off + 1, none⟩, cap - 1, by rw [hl], by rw [hl]; omega, by unfold maxLen; omega, ?_⟩, fun i hi => ?_⟩
  · rcases g with g | ⟨b', off', e, hlt, hcell⟩
    · omega
    · simp only [Option.some.injEq, Addr.mk.injEq] at e
      obtain ⟨rfl, rfl, _⟩ := e
      refine .inr ⟨b, off + 1, rfl, hlt, fun i hi => ?_⟩
      rw [hl] at hi
      have := hcell (i + 1) (by omega)
      rw [show off + 1 + i = off + (i + 1) by omega, this]
  · rw [hl] at hi
    have := hr (i + 1) (by omega)
    have e : (l.drop 1).getD i [] = l.getD (i + 1) [] := by simp
    rw [e]; exact this

def PlayDraw (w : World) (e : Ending) (w' : World) : Prop :=
  ∃ v g oc r order, e = .returned (.tuple #[v, .slice (some ⟨g, 0, none⟩) (List.length order) oc]) ∧ GridAt w' v r ∧ IntsAt w' (.slice (some ⟨g, 0, none⟩) order.length oc) order ∧ Below w.heap.size w w'
set_option maxHeartbeats 4000000 in
theorem drawPlay_any (a : Option Addr) (len cap : Nat) (zs : List Int) (w : World) (h : IsRow .u8 w a len cap zs) :
    Calls Tryd.prog 4 #[.slice a len cap] w (PlayDraw w) := by
  obtain ⟨i0, hi, hz0, hz1, hz2⟩ := info_parts info_intR
  obtain ⟨hm, hc⟩ := h.bounds
  have H := Lib.hid h
  clear h
  go_enter Tryd.func4, Tryd.ntmps4
  go_wp2_with fail
  refine (l6Open_any _ _ _ zs _ H.out hm hc).mono ?_
  rintro e w1 ⟨len', rfl, hw1, hr⟩
  have hO0 : Only w.heap.size w w1 := by rw [hw1]; exact (Only.refl _ _).alloc _
  have hs1 : w.heap.size < w1.heap.size := by rw [hw1]; simp
  have R := Lib.hid hr
  have O1 := Lib.hid hO0
  clear hr hO0 hw1
  go_wp2_with fail
  refine (pick_any 14 _ _ _ _ zs 0 _ (by omega) (R.out.alloc _) (by omega)).mono ?_
  rintro e w2 ⟨x, rfl, x0, x1, hr, hO, hs⟩
  obtain ⟨X, rfl⟩ : ∃ X : Nat, x = (X : Int) := ⟨x.toNat, by omega⟩
  have K2 : Hid (OwnInts w2 w1.heap.size (.slice (some ⟨w1.heap.size, 0, none⟩) 0 0) []) := Lib.hid (OwnInts.only (World.ownsRow_lit w1 #[] 0 (Nat.le_refl _) (by simp [maxLen]) rfl) hO hs1)
  have O2 := Lib.hid ((O1.out.alloc _).trans hO)
  have R2 := Lib.hid hr
  clear hr hO hs
  go_wp2_with fail
  go_loopg [5, 6] X (fun g s5 s6 wr => ∃ (t p n oc : Nat) (og : Nat) (l : List Int), s6 = .int .i64 t ∧ t = g ∧ s5 = .slice (some ⟨og, 0, none⟩) n oc ∧ n ≤ oc ∧ oc ≤ 9223372036854775807 ∧ n + t ≤ 13 ∧ p + 2 * t ≤ 30 ∧
    Hid (l.length = n) ∧ Hid (OwnInts wr w1.heap.size (.slice (some ⟨og, 0, none⟩) n oc) l) ∧ Hid (RdAt wr w.heap.size a len' cap zs p) ∧ Hid (Only w.heap.size w wr) ∧ w1.heap.size ≤ wr.heap.size)
  case atStart =>
    exact ⟨X, 1, 0, 0, _, [], rfl, rfl, rfl, by omega, by omega, by omega, by omega, Lib.hid rfl, K2, R2, O2, by
      have := O2.out.size
      have := (World.ownsRow.lt K2.out w1.heap.size rfl).2
      omega⟩
  case round =>
    obtain ⟨t, p, n, oc, og, l, rfl, ht, rfl, hoc, hom, hnt, hpt, HL, HK, R3, O3, hws⟩ := hrel
    by_cases hg0 : gk = 0
    · subst hg0
      subst ht
      go_wp2_with fail
      refine (l92Ranks_any _ _ _ _ zs p _ (by omega) R3.out).mono ?_
      rintro e w4 ⟨v, lll, p', rfl, hl, htb, hr, hp, hO⟩
      obtain ⟨va, vc, e', hvc, hvm⟩ := htb.grid.form
      subst e'
      have HT := Lib.hid htb.grid
      have O4 := Lib.hid (O3.out.trans hO)
      have K4 := Lib.hid (HK.out.only hO hs1)
      clear hl htb hr hO
      go_wp2_with fail
      go_ret2
      exact ⟨_, og, oc, lll, l, by rw [HL.out]; rfl, HT.out, by have := K4.out.ints; rw [HL.out]; exact this, O4.out.below (Nat.le_refl _) (Nat.le_refl _)⟩
    · have ht0 : 0 < t := by omega
      have htI : (0 : Int) < (t : Int) := by omega
      have HT1 := Lib.hid ht
      clear ht
      go_wp2_with fail
      refine (pick_any 3 _ _ _ _ zs p _ (by omega) R3.out (by omega)).mono ?_
      rintro e w4 ⟨y, rfl, y0, y1, hr, hO, hs⟩
      have R4 := Lib.hid hr
      have O4 := Lib.hid (O3.out.trans hO)
      have K4 := Lib.hid (HK.out.only hO hs1)
      have hws4 : w1.heap.size ≤ w4.heap.size := by omega
      clear hr hO hs
      go_wp2_with fail
      refine (pick_any 60 _ _ _ _ zs (p + 1) _ (by omega) R4.out (by omega)).mono ?_
      rintro e w5 ⟨z, rfl, z0, z1, hr, hO, hs⟩
      have R5 := Lib.hid hr
      have O5 := Lib.hid (O4.out.trans hO)
      have K5 := Lib.hid (K4.out.only hO hs1)
      have hws5 : w1.heap.size ≤ w5.heap.size := by omega
      clear hr hO hs
      have hown := K5.out
      unfold OwnInts at hown
      rw [HL.out] at hown
      have OWN := Lib.hid hown
      clear hown
      have zd : 0 ≤ z / 59 ∧ z / 59 ≤ 1 := by omega
      go_wp2_with (at_builtin; refine wpList_append_own _ rfl _ _ 24 rfl w1.heap.size 3 i0 (.int .i64 0) 1 8 Tryd.underlying24 hi hz0 hz1 hz2 rfl (by decide) _ _ _ rfl (World.ownsRow.alloc OWN.out _) ⟨w5.heap.size, 0, none⟩ 1 1 [.int .i64 (1 + y + z / 59 * 3)] rfl rfl (cell_one_new _ _ _) (by simp [Value.oneCell']) (by unfold maxLen; omega) (by omega) (by simp; omega) ?_; intro v' w6 hown6 hgrow6 _)
      obtain ⟨ra', rc', e', hr1, hr2⟩ := owns_some hown6
      have hrow : ∀ g, (Value.slice (some ⟨og, 0, none⟩) n oc).ownBlock = some g → w1.heap.size ≤ g := fun g hg => (World.ownsRow.lt OWN.out g hg).1
      have R6 := Lib.hid ((R5.out.alloc (.cells #[.int .i64 (1 + y + z / 59 * 3)] 3)).grown hgrow6 hrow hs1)
      have O6 := Lib.hid ((O5.out.alloc (.cells #[.int .i64 (1 + y + z / 59 * 3)] 3)).grown hgrow6 (fun g hg => Nat.le_trans (Nat.le_of_lt hs1) (hrow g hg)))
      have K6 := Lib.hid (OwnInts.more HL.out hown6)
      have hws6 : w1.heap.size ≤ w6.heap.size := by have := hgrow6.size; simp at this; omega
      clear hown6 hgrow6 hrow
      subst e'
      go_roundg (gk - 1)
      case measure => omega
      case rel =>
        have ht := HT1.out
        exact ⟨t - 1, p + 2, n + 1, rc', ra', _, by go_num, by omega, rfl, hr1, hr2, by omega, by omega, Lib.hid (by rw [List.length_append, HL.out]; rfl), K6, R6, O6, hws6⟩
end Go.Proofs.YtbbhnnbpeiodnaaDoor
