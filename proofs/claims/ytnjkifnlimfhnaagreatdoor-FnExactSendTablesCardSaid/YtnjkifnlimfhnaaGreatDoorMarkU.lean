/- The laws' marks of tables of one's own, and that they are held. The reference's tables of whatever comes. -/
import Derived.Test.YtnjkifnlimfhnaaGreatDoorMarkT
import Derived.Test.YtnjkifnlimfhnaaGreatDoorEntEq
namespace Go.Proofs.YtnjkifnlimfhnaaGreatDoor
open Go.RowKit
set_option linter.unusedVariables false
set_option maxRecDepth 100000

def offE (T : List (List Ent)) (i : Nat) : Nat := ((T.take i).map List.length).sum
theorem offE_zero (T : List (List Ent)) : offE T 0 = 0 := by simp [offE]
theorem offE_succ {T : List (List Ent)} {i : Nat} (hi : i < T.length) : offE T (i + 1) = offE T i + (T.getD i []).length := by
  unfold offE
  rw [List.take_add_one, List.map_append, List.sum_append, List.getD_eq_getElem?_getD, List.getElem?_eq_getElem hi]
  simp
theorem offE_le {T : List (List Ent)} {m : Nat} (h : ∀ i, i < T.length → (T.getD i []).length ≤ m) : ∀ i, i ≤ T.length → offE T i ≤ i * m
  | 0, _ => by simp [offE]
  | i + 1, hi => by
    rw [offE_succ (by omega), Nat.succ_mul]
    have := offE_le h i (by omega)
    have := h i (by omega)
    omega
/-- the first j rows are numbered -/
def numTo (T : List (List Ent)) (j : Nat) : List (List Ent) := (List.range T.length).map fun i => if i < j then numE (1 + (offE T i : Int) * 3) (T.getD i []).length else T.getD i []
theorem numTo_len (T : List (List Ent)) (j : Nat) : (numTo T j).length = T.length := by simp [numTo]
theorem numTo_get {T : List (List Ent)} {j i : Nat} (hi : i < T.length) : (numTo T j).getD i [] = if i < j then numE (1 + (offE T i : Int) * 3) (T.getD i []).length else T.getD i [] := by simp [numTo, hi]
theorem numTo_zero (T : List (List Ent)) : numTo T 0 = T := by
  refine List.ext_getElem (numTo_len T 0) (fun i h1 h2 => ?_)
  have := numTo_get (T := T) (j := 0) h2
  rw [List.getD_eq_getElem?_getD, List.getD_eq_getElem?_getD, List.getElem?_eq_getElem h1, List.getElem?_eq_getElem h2] at this
  simpa using this
theorem numTo_set {T : List (List Ent)} {j : Nat} (hj : j < T.length) : (numTo T j).set j (numE (1 + (offE T j : Int) * 3) (T.getD j []).length) = numTo T (j + 1) := by
  refine List.ext_getElem (by rw [List.length_set, numTo_len, numTo_len]) (fun i h1 h2 => ?_)
  rw [numTo_len] at h2
  have e1 := numTo_get (T := T) (j := j + 1) h2
  have e0 := numTo_get (T := T) (j := j) h2
  rw [List.getD_eq_getElem?_getD, List.getElem?_eq_getElem (by rw [numTo_len]; exact h2), Option.getD_some] at e1 e0
  rw [e1, List.getElem_set]
  by_cases h : j = i
  · subst h; rw [if_pos rfl, if_pos (by omega)]
  · rw [if_neg h, e0]
    by_cases h3 : i < j
    · rw [if_pos h3, if_pos (by omega)]
    · rw [if_neg h3, if_neg (by omega)]
/-- one row has been numbered -/
theorem TabsX.mark {w w' : World} {lo n G cap h : Nat} {ll : List (List Ent)} {u : Value} {l' : List Ent} (hX : TabsX w lo (.slice (some ⟨G, 0, none⟩) n cap) ll) (hn : ll.length = n) (hh : h < n) (hu : w.cell? ⟨G, h, none⟩ = some u)
    (hg : w.grownBy w' u.ownBlock) (hu' : EntNew w' lo u l') : TabsX w' lo (.slice (some ⟨G, 0, none⟩) n cap) (ll.set h l') := by
  obtain ⟨vs, h1, h2, h3, h4⟩ := hX
  subst hn
  have hcu : vs.getD h undef = u := by
    have h9 := World.ownsRow.cellAt h2 h
    have h8 : w.cell? ⟨G, h, none⟩ = vs[h]? := h9 (by omega)
    rw [h8] at hu
    rw [List.getD_eq_getElem?_getD, hu]; rfl
  have hue := h3 h hh
  rw [hcu] at hue
  obtain ⟨cur, hc⟩ := owns_tabrow h2 rfl
  have hGne : some G ≠ u.ownBlock := by
    intro e
    obtain ⟨c2, hc2⟩ := owns_ent hue e.symm
    rw [hc2] at hc
    simp at hc
  have h2' : w'.ownsRow lo 31 1 (.slice (some ⟨G, 0, none⟩) ll.length cap) ll.length vs := h2.kept hg (.inr hGne)
  refine ⟨vs, by rw [List.length_set]; exact h1, by rw [List.length_set]; exact h2', fun i hi => ?_, fun i j hi hj hij b hb => ?_⟩
  · rw [List.length_set] at hi
    by_cases hih : i = h
    · subst hih
      rw [hcu]
      have e : (ll.set i l').getD i [] = l' := by simp [hi]
      rw [e]; exact hu'
    · have e : (ll.set h l').getD i [] = ll.getD i [] := by simp [Ne.symm hih]
      rw [e]
      refine (h3 i hi).off hg ?_
      cases hb : (vs.getD i undef).ownBlock with
      | none => exact .inl rfl
      | some b =>
        right
        intro e'
        exact h4 i h hi hh hih b hb (by rw [hcu]; exact e'.symm)
  · rw [List.length_set] at hi hj
    exact h4 i j hi hj hij b hb
def MarkTabsPost (lo : Nat) (v : Value) (T : List (List Ent)) (w : World) (e : Ending) (w' : World) : Prop :=
  e = .returned (.int .i64 (1 + (offE T T.length : Int) * 3)) ∧ TabsX w' lo v (numTo T T.length) ∧ Below lo w w' ∧ w'.heap.size = w.heap.size
theorem grown_below {w w' : World} {lo : Nat} {r : Option Nat} (h : w.grownBy w' r) (hlo : lo ≤ w.heap.size) (hr : ∀ g, r = some g → lo ≤ g) : Below lo w w' := Below.grown (Below.refl _ _) h hlo hr
set_option maxHeartbeats 4000000 in
theorem markTabs_own (lo : Nat) (v : Value) (T : List (List Ent)) (w : World) (h : TabsX w lo v T) (hlo : lo ≤ w.heap.size) (h5 : T.length ≤ 5) (hs : ∀ i, i < T.length → (T.getD i []).length ≤ 100) :
    Calls Tryz.prog 29 #[v, .int .i64 1] w (MarkTabsPost lo v T w) := by
  obtain ⟨a, cap, rfl, hc, hm⟩ := h.form
  have hof := fun i (hi : i < T.length) => offE_succ hi
  have hle := offE_le hs
  obtain ⟨n, hn⟩ : ∃ n, T.length = n := ⟨_, rfl⟩
  have h0 := numTo_zero T
  have HN := Lib.hid hn
  unfold MarkTabsPost
  rw [hn] at h5 hs hof hle hc ⊢
  have H0 : Hid (TabsX w lo (.slice a n cap) (numTo T 0)) := Lib.hid (by rw [h0, ← hn]; exact h)
  have HS := Lib.hid hs
  have HOF := Lib.hid hof
  have HLE := Lib.hid hle
  clear h hn h0 hs hof hle
  go_enter Tryz.func29, Tryz.ntmps29
  go_wp2_with fail
  go_loopg [1, 5] n (fun gh s i wr => ∃ (j : Nat), i = .int .i64 j ∧ s = .int .i64 (1 + (offE T j : Int) * 3) ∧ j + gh = n ∧ Hid (TabsX wr lo (.slice a n cap) (numTo T j)) ∧ Hid (Below lo w wr) ∧ Hid (wr.heap.size = w.heap.size))
  case atStart => exact ⟨0, rfl, by rw [offE_zero]; rfl, by omega, H0, Lib.hid (Below.refl _ _), Lib.hid rfl⟩
  case round =>
    clear H0
    obtain ⟨j, rfl, rfl, hj, HX, HB, HZ⟩ := hrel
    by_cases hg0 : gk = 0
    · subst hg0
      obtain rfl : j = n := by omega
      have hdn : decide ((j : Int) < (j : Int)) = false := by simp
      go_wp2_with fail
      go_ret
      exact ⟨rfl, HX.out, HB.out, HZ.out⟩
    · have hjn : j < n := by omega
      have hjI : (j : Int) < (n : Int) := by omega
      have j0 : (0 : Int) ≤ (j : Int) := by omega
      obtain ⟨g, cap', u, e, hlg, hgs, hx, _, hu⟩ := HX.out.get (by rw [numTo_len, HN.out]) j hjn
      simp only [Value.slice.injEq] at e
      obtain ⟨rfl, _, rfl⟩ := e
      have hget := numTo_get (T := T) (j := j) (by rw [HN.out]; exact hjn : j < T.length)
      rw [if_neg (by omega)] at hget
      rw [hget] at hu
      have hsj := HS.out j hjn
      have hlj := HLE.out j (by omega)
      have hoj := HOF.out j hjn
      have hset := numTo_set (T := T) (by rw [HN.out]; exact hjn : j < T.length)
      obtain ⟨row, hrow⟩ : ∃ r, T.getD j [] = r := ⟨_, rfl⟩
      rw [hrow] at hu hsj hoj hset
      obtain ⟨o, ho⟩ : ∃ o, offE T j = o := ⟨_, rfl⟩
      rw [ho] at hlj hoj hset ⊢
      have hlj5 : o ≤ 500 := by
        have : j * 100 ≤ 500 := by omega
        omega
      have HMK := Lib.hid (markRow_own lo u row (1 + (o : Int) * 3) wr hu (by omega) (by omega))
      have HOJ := Lib.hid hoj
      have HSET := Lib.hid hset
      have HJ := Lib.hid hj
      have HX0 := Lib.hid hx
      have hult : ∀ b, u.ownBlock = some b → lo ≤ b := fun b hb => by
        obtain ⟨xs, ho1, _⟩ := hu
        exact (World.ownsRow.lt ho1 b hb).1
      have HULT := Lib.hid hult
      clear hult hu hoj hset hrow ho hget hj
      go_wp2_with fail
      refine HMK.out.mono ?_
      rintro e w1 ⟨rfl, hE, hG, hZ⟩
      have X1 := Lib.hid (HX.out.mark (by rw [numTo_len, HN.out]) hjn HX0.out hG hE)
      have B1 := Lib.hid (HB.out.trans (grown_below hG (by rw [HZ.out]; exact hlo) HULT.out))
      have Z1 := Lib.hid (hZ.trans HZ.out)
      clear hE hG hZ
      go_wp2_with fail
      go_roundg (gk - 1)
      case measure => omega
      case rel => exact ⟨j + 1, by go_num, by rw [HOJ.out]; exact congrArg (Value.int .i64) (by omega), by have := HJ.out; omega, Lib.hid (by rw [← HSET.out]; exact X1.out), B1, Z1⟩
set_option maxHeartbeats 4000000 in
theorem heldRow_any (v : Value) (n : Nat) (k : Int) (w : World) (h : EntsAt w v (numE k n)) (h0 : 0 ≤ k) (hk : k + n * 3 ≤ 4611686018427387904) :
    Calls Tryz.prog 60 #[v, .int .i64 k] w fun e w' => e = .returned (.int .i64 (k + (n : Int) * 3)) ∧ w' = w := by
  obtain ⟨a, cap, rfl, hc, hm⟩ := h.form
  rw [numE_len] at hc h ⊢
  have H := Lib.hid h
  clear h
  go_enter Tryz.func60, Tryz.ntmps60
  go_wp2_with fail
  go_loopg [1, 5] n (fun gk s i wr => ∃ j : Nat, i = .int .i64 j ∧ s = .int .i64 (k + (j : Int) * 3) ∧ j + gk = n ∧ wr = w)
  case atStart => exact ⟨0, rfl, by simp, by omega, rfl⟩
  case round =>
    obtain ⟨j, rfl, rfl, hj, rfl⟩ := hrel
    by_cases hg0 : gk = 0
    · subst hg0
      obtain rfl : j = n := by omega
      have hdn : decide ((j : Int) < (j : Int)) = false := by simp
      go_wp2_with fail
      go_ret
      exact ⟨rfl, rfl⟩
    · have hjn : j < n := by omega
      have hjI : (j : Int) < (n : Int) := by omega
      have j0 : (0 : Int) ≤ (j : Int) := by omega
      obtain ⟨eb, eoff, rfl, heb, x0, x1, x2⟩ := H.out.get j hjn
      rw [numE_get hjn] at x0 x1 x2
      simp only at x0 x1 x2
      obtain ⟨q, hq⟩ : ∃ q, k + (j : Int) * 3 = q := ⟨_, rfl⟩
      rw [hq] at x0 x1 x2 ⊢
      have w1 : IntKind.i64.wrap (q + 1) = q + 1 := IntWalk.i64_in _ (by omega)
      have w2 : IntKind.i64.wrap (q + 1 + 1) = q + 1 + 1 := IntWalk.i64_in _ (by omega)
      have w3 : IntKind.i64.wrap (q + 1 + 1 + 1) = q + 1 + 1 + 1 := IntWalk.i64_in _ (by omega)
      have e2 : q + 2 = q + 1 + 1 := by omega
      rw [e2] at x2
      have n0 : (q != q) = false := by simp
      have n1 : (q + 1 != q + 1) = false := by simp
      have n2 : (q + 1 + 1 != q + 1 + 1) = false := by simp
      have HQ := Lib.hid hq
      have HJ := Lib.hid hj
      clear hq hj e2
      go_wp2_with fail
      go_roundg (gk - 1)
      case measure => omega
      case rel => exact ⟨j + 1, by go_num, by have := HQ.out; exact congrArg (Value.int .i64) (by omega), by have := HJ.out; omega, rfl⟩
set_option maxHeartbeats 4000000 in
theorem heldTabs_any (v : Value) (T : List (List Ent)) (w : World) (h : TabsAt w v (numTo T T.length)) (h5 : T.length ≤ 5) (hs : ∀ i, i < T.length → (T.getD i []).length ≤ 100) :
    Calls Tryz.prog 30 #[v, .int .i64 1] w fun e w' => e = .returned (.int .i64 (1 + (offE T T.length : Int) * 3)) ∧ w' = w := by
  obtain ⟨a, cap, rfl, hc, hm⟩ := h.form
  have hof := fun i (hi : i < T.length) => offE_succ hi
  have hle := offE_le hs
  obtain ⟨n, hn⟩ : ∃ n, T.length = n := ⟨_, rfl⟩
  have HN := Lib.hid hn
  rw [numTo_len] at hc h ⊢
  rw [hn] at h5 hs hof hle hc h ⊢
  have H := Lib.hid h
  have HS := Lib.hid hs
  have HOF := Lib.hid hof
  have HLE := Lib.hid hle
  clear h hn hs hof hle
  go_enter Tryz.func30, Tryz.ntmps30
  go_wp2_with fail
  go_loopg [1, 5] n (fun gk s i wr => ∃ j : Nat, i = .int .i64 j ∧ s = .int .i64 (1 + (offE T j : Int) * 3) ∧ j + gk = n ∧ wr = w)
  case atStart => exact ⟨0, rfl, by rw [offE_zero]; rfl, by omega, rfl⟩
  case round =>
    obtain ⟨j, rfl, rfl, hj, rfl⟩ := hrel
    by_cases hg0 : gk = 0
    · subst hg0
      obtain rfl : j = n := by omega
      have hdn : decide ((j : Int) < (j : Int)) = false := by simp
      go_wp2_with fail
      go_ret
      exact ⟨rfl, rfl⟩
    · have hjn : j < n := by omega
      have hjI : (j : Int) < (n : Int) := by omega
      have j0 : (0 : Int) ≤ (j : Int) := by omega
      obtain ⟨tb, toff, tu, rfl, htb, z0, htu⟩ := H.out.get j hjn
      rw [numTo_get (by rw [HN.out]; exact hjn), if_pos hjn] at htu
      have hsj := HS.out j hjn
      have hlj := HLE.out j (by omega)
      have hoj := HOF.out j hjn
      obtain ⟨m, hrow⟩ : ∃ r, (T.getD j []).length = r := ⟨_, rfl⟩
      rw [hrow] at htu hsj hoj
      obtain ⟨o, ho⟩ : ∃ o, offE T j = o := ⟨_, rfl⟩
      rw [ho] at hlj hoj htu ⊢
      have hlj5 : o ≤ 500 := by
        have : j * 100 ≤ 500 := by omega
        omega
      have HH := Lib.hid (heldRow_any tu m (1 + (o : Int) * 3) wr htu (by omega) (by omega))
      have HOJ := Lib.hid hoj
      have HJ := Lib.hid hj
      have hneg : ¬ 1 + (o : Int) * 3 + (m : Int) * 3 < 0 := by omega
      have hneg2 : decide (1 + (o : Int) * 3 + (m : Int) * 3 < 0) = false := decide_eq_false hneg
      clear htu hoj hrow ho hj hneg
      go_wp2_with fail
      refine HH.out.mono ?_
      rintro e w1 ⟨rfl, rfl⟩
      go_wp2_with fail
      go_roundg (gk - 1)
      case measure => omega
      case rel => exact ⟨j + 1, by go_num, by rw [HOJ.out]; exact congrArg (Value.int .i64) (by omega), by have := HJ.out; omega, rfl⟩
/-- of rows that are ok -/
theorem homes_square {rs : List (List Int)} {l : List Ent} (h : homesOkF rs l = true) : Square rs rs.length ∧ 1 ≤ rs.length ∧ rs.length ≤ 5 ∧ l.length ≤ 4 := by
  obtain ⟨h1, h2, _⟩ := homesOk_all h
  have hb := rels_bounds h1
  refine ⟨⟨rfl, fun i hi => ?_⟩, hb.1, hb.2, h2⟩
  unfold relsOkF at h1
  rw [Bool.and_eq_true, List.all_eq_true] at h1
  have h3 := h1.1 i (List.mem_range.2 hi)
  rw [Bool.and_eq_true, decide_eq_true_eq] at h3
  exact h3.1
theorem tabs_none {rs : List (List Int)} {l : List Ent} {n : Nat} (h : homesOkF rs l = false) : sendTabsF rs l n = [] := by
  unfold sendTabsF
  rw [h]; rfl
set_option maxHeartbeats 4000000 in
theorem specTabs_any (v hv : Value) (rs : List (List Int)) (l : List Ent) (w : World) (hr : RowsAt w v rs) (hh : EntsAt w hv l) :
    Calls Tryz.prog 11 #[v, hv] w fun e w' => ∃ v', e = .returned v' ∧ TabsL w' w.heap.size v' (sendTabsF rs l rs.length) ∧ Below w.heap.size w w' := by
  cases hB : homesOkF rs l
  · have hok : ∀ W, Below w.heap.size w W → Calls Tryz.prog 37 #[v, hv] W fun e w' => e = .returned (.bool false) ∧ Below W.heap.size W w' := fun W hW => by
      have := specHomesOk_any v hv rs l W (hr.below hW) (hh.below hW)
      rw [hB] at this
      exact this
    have h0 := TabsL.zero w
    rw [tabs_none hB]
    obtain ⟨a, cap, rfl, _, _⟩ := hr.form
    obtain ⟨a2, cap2, rfl, _, _⟩ := hh.form
    have HOK := Lib.hid hok
    have H0 := Lib.hid h0
    have BA : Hid (Below w.heap.size w (w.alloc (.cells #[] 31))) := Lib.hid (Below.alloc (Below.refl _ _) (Nat.le_refl _) _)
    clear hok h0 hr hh hB
    go_enter Tryz.func11, Tryz.ntmps11
    go_wp2_with fail
    refine (HOK.out _ BA.out).mono ?_
    rintro e w1 ⟨rfl, hb1⟩
    have T1 := Lib.hid (H0.out.below hb1)
    have B1 := Lib.hid (BA.out.trans (hb1.mono BA.out.size))
    clear hb1
    go_wp2_with fail
    go_ret
    exact ⟨_, rfl, T1.out, B1.out⟩
  · obtain ⟨h1, h2, h3, h4⟩ := homes_square hB
    exact specSendTables_any v hv rs l rs.length w hr h1 hh h2 h3 (by omega)
theorem tabs_small {rs : List (List Int)} {l : List Ent} : (sendTabsF rs l rs.length).length ≤ 5 ∧ ∀ i, i < (sendTabsF rs l rs.length).length → ((sendTabsF rs l rs.length).getD i []).length ≤ 100 := by
  cases hB : homesOkF rs l
  · rw [tabs_none hB]; simp
  · obtain ⟨h1, h2, h3, h4⟩ := homes_square hB
    rw [sendTabs_len2 hB]
    refine ⟨h3, fun i hi => ?_⟩
    rw [sendTabs_get hB rfl hi]
    have := tabF_short rs rs.length l i l.length
    omega
end Go.Proofs.YtnjkifnlimfhnaaGreatDoor
