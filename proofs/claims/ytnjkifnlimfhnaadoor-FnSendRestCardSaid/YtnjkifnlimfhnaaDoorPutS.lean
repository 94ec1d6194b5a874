/- spec.l2Put: a table with one entry more, or one that has turned. -/
import Derived.Test.YtnjkifnlimfhnaaDoorEntApp
namespace Go.Proofs.YtnjkifnlimfhnaaDoor
open Go.RowKit
set_option linter.unusedVariables false

def putStep (e : Ent) (s : List Ent × Bool) (x : Ent) : List Ent × Bool :=
  let c := rcmpF x.1 x.2.1 e.1 e.2.1
  let o := if s.2 = false ∧ 0 ≤ c then s.1 ++ [e] else s.1
  (if c ≠ 0 then o ++ [x] else o, s.2 || decide (0 ≤ c))
def putF (l : List Ent) (e : Ent) : List Ent := if (l.foldl (putStep e) ([], false)).2 then (l.foldl (putStep e) ([], false)).1 else (l.foldl (putStep e) ([], false)).1 ++ [e]
theorem put_len (e : Ent) : ∀ (l : List Ent) (s : List Ent × Bool), (l.foldl (putStep e) s).1.length + (if (l.foldl (putStep e) s).2 then 0 else 1) ≤ s.1.length + (if s.2 then 0 else 1) + l.length
  | [], s => Nat.le_refl _
  | x :: t, s => by
    rw [List.foldl_cons]
    refine Nat.le_trans (put_len e t _) ?_
    obtain ⟨o, p⟩ := s
    unfold putStep
    by_cases h0 : 0 ≤ rcmpF x.1 x.2.1 e.1 e.2.1 <;> by_cases h1 : rcmpF x.1 x.2.1 e.1 e.2.1 = 0 <;> cases p <;> simp [h0, h1] <;> omega
theorem putF_len (l : List Ent) (e : Ent) : (putF l e).length ≤ l.length + 1 := by
  have := put_len e l ([], false)
  unfold putF
  simp at this
  cases h : (l.foldl (putStep e) ([], false)).2
  · rw [h] at this; simp at this ⊢; omega
  · rw [h] at this; simp at this ⊢; omega
set_option maxRecDepth 100000 in
set_option maxHeartbeats 8000000 in
theorem l2Put_any (v : Value) (l : List Ent) (e : Ent) (w : World) (hv : EntsAt w v l) (hl : l.length ≤ 100000) :
    Calls Tryd.prog 23 #[v, entV e] w fun r w' => ∃ v', r = .returned v' ∧ EntNew w' w.heap.size v' (putF l e) ∧ Below w.heap.size w w' := by
  obtain ⟨ef, eb, ev⟩ := e
  unfold entV
  obtain ⟨a, cap, rfl, hc, hm⟩ := hv.form
  obtain ⟨n, hn⟩ : ∃ n, l.length = n := ⟨_, rfl⟩
  rw [hn] at hc hl hv ⊢
  have hlen : ∀ k, k ≤ n → ∀ o p, (l.take k).foldl (putStep (ef, eb, ev)) ([], false) = (o, p) → o.length ≤ k + 1 := fun k hk o p h => by
    have := put_len (ef, eb, ev) (l.take k) ([], false)
    rw [h] at this
    simp at this
    omega
  have HN := Lib.hid hn
  have H := Lib.hid hv
  have HLEN := Lib.hid hlen
  clear hn hv hlen
  dsimp only
  have hB0 := Box3.new w (.int .i64 ef) (.int .i64 eb) (.int .i64 ev) 35
  have HB0 := Lib.hid hB0
  clear hB0
  go_enter Tryd.func23, Tryd.ntmps23
  go_wp2_with fail
  go_loopg [5, 6, 7] n (fun gk s5 s6 s7 wr => ∃ (k : Nat) (o : List Ent) (p : Bool), s7 = .int .i64 (k : Int) ∧ s6 = .bool p ∧ k + gk = n ∧ Hid (EntNew wr (w.heap.size + 1) s5 o) ∧ Hid ((l.take k).foldl (putStep (ef, eb, ev)) ([], false) = (o, p)) ∧ Hid (Below (w.heap.size + 1) (w.alloc (.cells #[.int .i64 ef, .int .i64 eb, .int .i64 ev] 35)) wr))
  case atStart => exact ⟨0, [], false, rfl, rfl, by omega, Lib.hid (by have := EntNew.zero (w.alloc (.cells #[.int .i64 ef, .int .i64 eb, .int .i64 ev] 35)); rw [World.size_alloc] at this; exact this), Lib.hid rfl, Lib.hid (Below.alloc (Below.refl _ _) (by simp) _)⟩
  case round =>
    obtain ⟨k, o, p, rfl, rfl, hk, O, HF, hb⟩ := hrel
    have hol := HLEN.out k (by omega) o p HF.out
    have HOL := Lib.hid hol
    clear hol
    obtain ⟨oa, oc, e, hol1, hol2⟩ := O.out.form
    subst e
    obtain ⟨m, hm'⟩ : ∃ m, o.length = m := ⟨_, rfl⟩
    have B0 := Box3.below HB0.out (by have := hb.out; simpa using this) (by simp)
    have bw0 := B0.c0
    have bw1 := B0.c1
    have bw2 := B0.c2
    have hsw : w.heap.size + 1 ≤ wr.heap.size := by have := hb.out.size; simpa using this
    have hfin : ∀ W, Below (w.heap.size + 1) (w.alloc (.cells #[.int .i64 ef, .int .i64 eb, .int .i64 ev] 35)) W → Below w.heap.size w W := fun W h => Below.trans (Below.alloc (Below.refl _ _) (Nat.le_refl _) _) (h.mono (by omega))
    have HFIN := Lib.hid hfin
    clear hfin
    by_cases hg : gk = 0
    · subst hg
      obtain rfl : k = n := by omega
      have hdn : decide ((k : Int) < (k : Int)) = false := by simp
      have hF := HF.out
      rw [← HN.out, List.take_length] at hF
      cases p
      · have hp : putF l (ef, eb, ev) = o ++ [(ef, eb, ev)] := by unfold putF; rw [hF]; rfl
        have HP := Lib.hid hp
        clear hp hF
        go_wp2_with (at_builtin; refine wpList_append_ent rfl (.tmp 45) (.tmp 47) rfl (w.heap.size + 1) _ o (ef, eb, ev) rfl O.out rfl (by have := HOL.out; omega) hsw ?_; intro va vc w4 hO4 hb4 hs4)
        go_ret
        exact ⟨_, rfl, by rw [HP.out]; rw [hm'] at hO4; exact EntNew.lift (B := w.heap.size + 1) hO4 (by omega), HFIN.out _ (hb.out.trans hb4)⟩
      · have hp : putF l (ef, eb, ev) = o := by unfold putF; rw [hF]; rfl
        have HP := Lib.hid hp
        clear hp hF
        go_wp2_with fail
        go_ret
        exact ⟨_, rfl, by rw [HP.out]; exact EntNew.lift (B := w.heap.size + 1) O.out (by omega), HFIN.out _ hb.out⟩
    · have hkn : k < n := by omega
      have hkI : (k : Int) < (n : Int) := by omega
      have k0 : (0 : Int) ≤ (k : Int) := by omega
      have hgk : 1 ≤ gk := by omega
      obtain ⟨b, off, rfl, hbb0, _⟩ := H.out.get k hkn
      obtain ⟨b', off', e, hbb, c0, c1, c2⟩ := (H.out.below (HFIN.out _ hb.out)).get k hkn
      simp only [Option.some.injEq, Addr.mk.injEq] at e
      obtain ⟨rfl, rfl, _⟩ := e
      obtain ⟨ent, hent⟩ : ∃ e, l.getD k (0, 0, 0) = e := ⟨_, rfl⟩
      rw [hent] at c0 c1 c2
      obtain ⟨f, bt, vi⟩ := ent
      simp only at c0 c1 c2
      have hE : ∀ W, Below (w.heap.size + 1) (w.alloc (.cells #[.int .i64 ef, .int .i64 eb, .int .i64 ev] 35)) W → ∀ q, q = b → W.cell? ⟨b, off + k * 3, none⟩ = some (.int .i64 f) ∧ W.cell? ⟨b, off + k * 3 + 1, none⟩ = some (.int .i64 bt) ∧ W.cell? ⟨b, off + k * 3 + 2, none⟩ = some (.int .i64 vi) := fun W hW _ _ => by
        obtain ⟨_, _, e, _, d0, d1, d2⟩ := (H.out.below (HFIN.out _ hW)).get k hkn
        simp only [Option.some.injEq, Addr.mk.injEq] at e
        obtain ⟨rfl, rfl, _⟩ := e
        rw [hent] at d0 d1 d2
        exact ⟨d0, d1, d2⟩
      have hE := Lib.hid hE
      obtain ⟨c, hc'⟩ : ∃ c, rcmpF f bt ef eb = c := ⟨_, rfl⟩
      have hcm : ∀ W, Calls Tryd.prog 43 #[.agg #[.int .i64 f, .int .i64 bt], .agg #[.int .i64 ef, .int .i64 eb]] W fun e w' => e = .returned (.int .i64 c) ∧ Below W.heap.size W w' := fun W => by rw [← hc']; exact l1Cmp_any f bt ef eb W
      have HCM := Lib.hid hcm
      have HCV := Lib.hid hc'
      have HENT := Lib.hid hent
      have HK := Lib.hid hk
      clear hcm hc' hent hk hg hm'
      cases p
      · rcases Int.lt_trichotomy c 0 with hsign | hsign | hsign
        · have hc0 : c < 0 := hsign
          have hge : decide (0 ≤ c) = false := decide_eq_false (by omega)
          have hne : (c != 0) = true := by simp; omega
          have hc00 : c ≠ 0 := by omega
          have hngeP : ¬ 0 ≤ c := by omega
          have HSG := Lib.hid hsign
          clear hsign
          go_wp2_with fail
          refine wp_region_noPanic ?_
          refine wp_region_held_drew (S := (fun w' => w'.cell? ⟨b, off + k * 3, none⟩ = some (.int .i64 f) ∧ w'.cell? ⟨b, off + k * 3 + 1, none⟩ = some (.int .i64 bt) ∧ w'.cell? ⟨w.heap.size, 0, none⟩ = some (.int .i64 ef) ∧ w'.cell? ⟨w.heap.size, 1, none⟩ = some (.int .i64 eb))) (by kernel_rfl) (by simp [go_sem, *]) (fun hHeld => ?_)
          refine wpAnyH_take (i := 0) (v := _) (by (simp only [List.getElem?_toArray, List.getElem?_cons_zero]) <;> rfl) (by kernel_rfl) (by kernel_rfl) (by kernel_rfl) (fun _ _ _ h => h) (Or.inl ⟨by rfl, fun w hSw => by ((try dsimp only at hSw); go_simp) <;> with_reducible rfl⟩) (by assumption) ?_
          (try simp only [Act.put, List.setIfInBounds_toArray, List.set_cons_zero, List.set_cons_succ])
          refine wpAnyH_take (i := 1) (v := _) (by (simp only [List.getElem?_toArray, List.getElem?_cons_succ, List.getElem?_cons_zero]) <;> rfl) (by kernel_rfl) (by kernel_rfl) (by kernel_rfl) (fun _ _ _ h => h) (Or.inl ⟨by rfl, fun w hSw => by ((try dsimp only at hSw); go_simp) <;> with_reducible rfl⟩) (by assumption) ?_
          (try simp only [Act.put, List.setIfInBounds_toArray, List.set_cons_zero, List.set_cons_succ])
          refine wpAnyH_take (i := 2) (v := _) (by (simp only [List.getElem?_toArray, List.getElem?_cons_succ, List.getElem?_cons_zero]) <;> rfl) (by kernel_rfl) (by kernel_rfl) (by kernel_rfl) (fun _ _ _ h => h) (Or.inl ⟨by rfl, fun w hSw => by ((try dsimp only at hSw); go_simp) <;> with_reducible rfl⟩) (by assumption) ?_
          (try simp only [Act.put, List.setIfInBounds_toArray, List.set_cons_zero, List.set_cons_succ])
          refine wpAnyH_take (i := 3) (v := _) (by (simp only [List.getElem?_toArray, List.getElem?_cons_succ, List.getElem?_cons_zero]) <;> rfl) (by kernel_rfl) (by kernel_rfl) (by kernel_rfl) (fun _ _ _ h => h) (Or.inl ⟨by rfl, fun w hSw => by ((try dsimp only at hSw); go_simp) <;> with_reducible rfl⟩) (by assumption) ?_
          (try simp only [Act.put, List.setIfInBounds_toArray, List.set_cons_zero, List.set_cons_succ])
          refine wpAnyH_take (i := 4) (v := _) (by (simp only [List.getElem?_toArray, List.getElem?_cons_succ, List.getElem?_cons_zero]) <;> rfl) (by kernel_rfl) (by kernel_rfl) (by kernel_rfl) (fun _ _ _ h => h) (Or.inl ⟨by rfl, fun w hSw => by ((try dsimp only at hSw); go_simp) <;> with_reducible rfl⟩) (by assumption) ?_
          (try simp only [Act.put, List.setIfInBounds_toArray, List.set_cons_zero, List.set_cons_succ])
          refine wpAnyH_take (i := 5) (v := _) (by (simp only [List.getElem?_toArray, List.getElem?_cons_succ, List.getElem?_cons_zero]) <;> rfl) (by kernel_rfl) (by kernel_rfl) (by kernel_rfl) (fun _ _ _ h => h) (Or.inl ⟨by rfl, fun w hSw => by ((try dsimp only at hSw); go_simp) <;> with_reducible rfl⟩) (by assumption) ?_
          (try simp only [Act.put, List.setIfInBounds_toArray, List.set_cons_zero, List.set_cons_succ])
          refine wpAnyH_take (i := 6) (v := _) (by (simp only [List.getElem?_toArray, List.getElem?_cons_succ, List.getElem?_cons_zero]) <;> rfl) (by kernel_rfl) (by kernel_rfl) (by kernel_rfl) (fun _ _ _ h => h) (Or.inl ⟨by rfl, fun w hSw => by ((try dsimp only at hSw); go_simp) <;> with_reducible rfl⟩) (by assumption) ?_
          (try simp only [Act.put, List.setIfInBounds_toArray, List.set_cons_zero, List.set_cons_succ])
          refine wpAnyH_ready (rs := [7]) (by kernel_rfl) (by simp) ?_
          refine AllReadyH.cons (by (simp only [List.getElem?_toArray, List.getElem?_cons_succ, List.getElem?_cons_zero]) <;> rfl) (fun K hK => ?_) AllReadyH.nil
          go_simp
          (go_at_call 43; refine (HCM.out _).mono ?_; rintro r w1 ⟨rfl, hb1⟩; have hB1 : Below wr.heap.size wr w1 := (by refine Below.trans ?_ (hb1.mono (by first | exact Nat.le_refl _ | omega | (simp; done) | (simp; omega))); repeat (first | exact Below.refl _ _ | assumption | refine Below.drew ?_ | refine belowDrewN ?_ _ | refine Below.alloc ?_ (by first | exact Nat.le_refl _ | omega | (simp; done) | (simp; omega)) _ | refine Below.setCell ?_ (by first | exact Nat.le_refl _ | omega | (simp; done) | (simp; omega)) _)); have O1 := Lib.hid (O.out.below hB1); have B1 := Box3.below B0 hB1 B0.size; have bx0 := B1.c0; have bx1 := B1.c1; have bx2 := B1.c2; have hs1 : w.heap.size + 1 ≤ w1.heap.size := (by have := hB1.size; omega); have x0 := (hB1.cell (p := ⟨b, off + k * 3, none⟩) hbb).trans c0; have x1 := (hB1.cell (p := ⟨b, off + k * 3 + 1, none⟩) hbb).trans c1; have x2 := (hB1.cell (p := ⟨b, off + k * 3 + 2, none⟩) hbb).trans c2; have BB := Lib.hid (hb.out.trans (hB1.mono (by have := hb.out.size; simp at this; omega))); clear hb1)
          refine hK.out _ _ (by simp [go_sem, *]) (fun hHeld => ?_)
          (try simp only [Act.put, List.setIfInBounds_toArray, List.set_cons_zero, List.set_cons_succ])
          refine wpAnyH_take (i := 8) (v := _) (by (simp only [List.getElem?_toArray, List.getElem?_cons_succ, List.getElem?_cons_zero]) <;> rfl) (by kernel_rfl) (by kernel_rfl) (by kernel_rfl) (fun _ _ _ h => h) (Or.inl ⟨by rfl, fun w hSw => by ((try dsimp only at hSw); go_simp) <;> with_reducible rfl⟩) (by assumption) ?_
          (try simp only [Act.put, List.setIfInBounds_toArray, List.set_cons_zero, List.set_cons_succ])
          refine wpAnyH_done (by kernel_rfl) ?_ _
          refine NoPanic.normal ?_
          go_wp2_with (at_builtin; refine wpList_append_ent rfl (.tmp 36) (.tmp 41) rfl (w.heap.size + 1) _ o (f, bt, vi) rfl O1.out rfl (by have := HOL.out; (try rw [List.length_append]); (try rw [List.length_singleton]); omega) hs1 ?_; intro va5 vc5 w5 hO5 hb5 hs5; have O5 := Lib.hid hO5; have BB5 := Lib.hid (BB.out.trans hb5); clear hO5 hb5)
          go_roundg (gk - 1)
          case measure => omega
          case rel => exact ⟨k + 1, (o ++ [(f, bt, vi)]), false, by go_num, by first | rfl | simp, by have := HK.out; omega, Lib.hid (by first | exact O5.out | (have := O5.out; simpa using this)), Lib.hid (by rw [take_snoc (by rw [HN.out]; exact hkn), List.foldl_append, HF.out, HENT.out]; simp only [List.foldl_cons, List.foldl_nil, putStep, HCV.out]; simp [hc00, hngeP]), BB5⟩
        · have hge : decide (0 ≤ c) = true := decide_eq_true (by omega)
          have hne : (c != 0) = false := by simp [hsign]
          have hgeP : 0 ≤ c := by omega
          have HSG := Lib.hid hsign
          clear hsign
          go_wp2_with fail
          refine wp_region_noPanic ?_
          refine wp_region_held_drew (S := (fun w' => w'.cell? ⟨b, off + k * 3, none⟩ = some (.int .i64 f) ∧ w'.cell? ⟨b, off + k * 3 + 1, none⟩ = some (.int .i64 bt) ∧ w'.cell? ⟨w.heap.size, 0, none⟩ = some (.int .i64 ef) ∧ w'.cell? ⟨w.heap.size, 1, none⟩ = some (.int .i64 eb))) (by kernel_rfl) (by simp [go_sem, *]) (fun hHeld => ?_)
          refine wpAnyH_take (i := 0) (v := _) (by (simp only [List.getElem?_toArray, List.getElem?_cons_zero]) <;> rfl) (by kernel_rfl) (by kernel_rfl) (by kernel_rfl) (fun _ _ _ h => h) (Or.inl ⟨by rfl, fun w hSw => by ((try dsimp only at hSw); go_simp) <;> with_reducible rfl⟩) (by assumption) ?_
          (try simp only [Act.put, List.setIfInBounds_toArray, List.set_cons_zero, List.set_cons_succ])
          refine wpAnyH_take (i := 1) (v := _) (by (simp only [List.getElem?_toArray, List.getElem?_cons_succ, List.getElem?_cons_zero]) <;> rfl) (by kernel_rfl) (by kernel_rfl) (by kernel_rfl) (fun _ _ _ h => h) (Or.inl ⟨by rfl, fun w hSw => by ((try dsimp only at hSw); go_simp) <;> with_reducible rfl⟩) (by assumption) ?_
          (try simp only [Act.put, List.setIfInBounds_toArray, List.set_cons_zero, List.set_cons_succ])
          refine wpAnyH_take (i := 2) (v := _) (by (simp only [List.getElem?_toArray, List.getElem?_cons_succ, List.getElem?_cons_zero]) <;> rfl) (by kernel_rfl) (by kernel_rfl) (by kernel_rfl) (fun _ _ _ h => h) (Or.inl ⟨by rfl, fun w hSw => by ((try dsimp only at hSw); go_simp) <;> with_reducible rfl⟩) (by assumption) ?_
          (try simp only [Act.put, List.setIfInBounds_toArray, List.set_cons_zero, List.set_cons_succ])
          refine wpAnyH_take (i := 3) (v := _) (by (simp only [List.getElem?_toArray, List.getElem?_cons_succ, List.getElem?_cons_zero]) <;> rfl) (by kernel_rfl) (by kernel_rfl) (by kernel_rfl) (fun _ _ _ h => h) (Or.inl ⟨by rfl, fun w hSw => by ((try dsimp only at hSw); go_simp) <;> with_reducible rfl⟩) (by assumption) ?_
          (try simp only [Act.put, List.setIfInBounds_toArray, List.set_cons_zero, List.set_cons_succ])
          refine wpAnyH_take (i := 4) (v := _) (by (simp only [List.getElem?_toArray, List.getElem?_cons_succ, List.getElem?_cons_zero]) <;> rfl) (by kernel_rfl) (by kernel_rfl) (by kernel_rfl) (fun _ _ _ h => h) (Or.inl ⟨by rfl, fun w hSw => by ((try dsimp only at hSw); go_simp) <;> with_reducible rfl⟩) (by assumption) ?_
          (try simp only [Act.put, List.setIfInBounds_toArray, List.set_cons_zero, List.set_cons_succ])
          refine wpAnyH_take (i := 5) (v := _) (by (simp only [List.getElem?_toArray, List.getElem?_cons_succ, List.getElem?_cons_zero]) <;> rfl) (by kernel_rfl) (by kernel_rfl) (by kernel_rfl) (fun _ _ _ h => h) (Or.inl ⟨by rfl, fun w hSw => by ((try dsimp only at hSw); go_simp) <;> with_reducible rfl⟩) (by assumption) ?_
          (try simp only [Act.put, List.setIfInBounds_toArray, List.set_cons_zero, List.set_cons_succ])
          refine wpAnyH_take (i := 6) (v := _) (by (simp only [List.getElem?_toArray, List.getElem?_cons_succ, List.getElem?_cons_zero]) <;> rfl) (by kernel_rfl) (by kernel_rfl) (by kernel_rfl) (fun _ _ _ h => h) (Or.inl ⟨by rfl, fun w hSw => by ((try dsimp only at hSw); go_simp) <;> with_reducible rfl⟩) (by assumption) ?_
          (try simp only [Act.put, List.setIfInBounds_toArray, List.set_cons_zero, List.set_cons_succ])
          refine wpAnyH_ready (rs := [7]) (by kernel_rfl) (by simp) ?_
          refine AllReadyH.cons (by (simp only [List.getElem?_toArray, List.getElem?_cons_succ, List.getElem?_cons_zero]) <;> rfl) (fun K hK => ?_) AllReadyH.nil
          go_simp
          (go_at_call 43; refine (HCM.out _).mono ?_; rintro r w1 ⟨rfl, hb1⟩; have hB1 : Below wr.heap.size wr w1 := (by refine Below.trans ?_ (hb1.mono (by first | exact Nat.le_refl _ | omega | (simp; done) | (simp; omega))); repeat (first | exact Below.refl _ _ | assumption | refine Below.drew ?_ | refine belowDrewN ?_ _ | refine Below.alloc ?_ (by first | exact Nat.le_refl _ | omega | (simp; done) | (simp; omega)) _ | refine Below.setCell ?_ (by first | exact Nat.le_refl _ | omega | (simp; done) | (simp; omega)) _)); have O1 := Lib.hid (O.out.below hB1); have B1 := Box3.below B0 hB1 B0.size; have bx0 := B1.c0; have bx1 := B1.c1; have bx2 := B1.c2; have hs1 : w.heap.size + 1 ≤ w1.heap.size := (by have := hB1.size; omega); have x0 := (hB1.cell (p := ⟨b, off + k * 3, none⟩) hbb).trans c0; have x1 := (hB1.cell (p := ⟨b, off + k * 3 + 1, none⟩) hbb).trans c1; have x2 := (hB1.cell (p := ⟨b, off + k * 3 + 2, none⟩) hbb).trans c2; have BB := Lib.hid (hb.out.trans (hB1.mono (by have := hb.out.size; simp at this; omega))); clear hb1)
          refine hK.out _ _ (by simp [go_sem, *]) (fun hHeld => ?_)
          (try simp only [Act.put, List.setIfInBounds_toArray, List.set_cons_zero, List.set_cons_succ])
          refine wpAnyH_take (i := 8) (v := _) (by (simp only [List.getElem?_toArray, List.getElem?_cons_succ, List.getElem?_cons_zero]) <;> rfl) (by kernel_rfl) (by kernel_rfl) (by kernel_rfl) (fun _ _ _ h => h) (Or.inl ⟨by rfl, fun w hSw => by ((try dsimp only at hSw); go_simp) <;> with_reducible rfl⟩) (by assumption) ?_
          (try simp only [Act.put, List.setIfInBounds_toArray, List.set_cons_zero, List.set_cons_succ])
          refine wpAnyH_done (by kernel_rfl) ?_ _
          refine NoPanic.normal ?_
          go_wp2_with (at_builtin; refine wpList_append_ent rfl (.tmp 30) (.tmp 32) rfl (w.heap.size + 1) _ o (ef, eb, ev) rfl O1.out rfl (by have := HOL.out; omega) hs1 ?_; intro va vc w4 hO4 hb4 hs4; have O4 := Lib.hid hO4; have y0 := hE.out w4 (BB.out.trans hb4) _ rfl; obtain ⟨y0, y1, y2⟩ := y0; have hs4' : w.heap.size + 1 ≤ w4.heap.size := Nat.le_trans hs1 hs4; have BB4 := Lib.hid (BB.out.trans hb4); clear hO4 hb4)
          go_roundg (gk - 1)
          case measure => omega
          case rel => exact ⟨k + 1, (o ++ [(ef, eb, ev)]), true, by go_num, by first | rfl | simp, by have := HK.out; omega, Lib.hid (by first | exact O4.out | (have := O4.out; simpa using this)), Lib.hid (by rw [take_snoc (by rw [HN.out]; exact hkn), List.foldl_append, HF.out, HENT.out]; simp only [List.foldl_cons, List.foldl_nil, putStep, HCV.out]; simp [HSG.out]), BB4⟩
        · have hge : decide (0 ≤ c) = true := decide_eq_true (by omega)
          have hne : (c != 0) = true := by simp; omega
          have hc00 : c ≠ 0 := by omega
          have hgeP : 0 ≤ c := by omega
          have HSG := Lib.hid hsign
          clear hsign
          go_wp2_with fail
          refine wp_region_noPanic ?_
          refine wp_region_held_drew (S := (fun w' => w'.cell? ⟨b, off + k * 3, none⟩ = some (.int .i64 f) ∧ w'.cell? ⟨b, off + k * 3 + 1, none⟩ = some (.int .i64 bt) ∧ w'.cell? ⟨w.heap.size, 0, none⟩ = some (.int .i64 ef) ∧ w'.cell? ⟨w.heap.size, 1, none⟩ = some (.int .i64 eb))) (by kernel_rfl) (by simp [go_sem, *]) (fun hHeld => ?_)
          refine wpAnyH_take (i := 0) (v := _) (by (simp only [List.getElem?_toArray, List.getElem?_cons_zero]) <;> rfl) (by kernel_rfl) (by kernel_rfl) (by kernel_rfl) (fun _ _ _ h => h) (Or.inl ⟨by rfl, fun w hSw => by ((try dsimp only at hSw); go_simp) <;> with_reducible rfl⟩) (by assumption) ?_
          (try simp only [Act.put, List.setIfInBounds_toArray, List.set_cons_zero, List.set_cons_succ])
          refine wpAnyH_take (i := 1) (v := _) (by (simp only [List.getElem?_toArray, List.getElem?_cons_succ, List.getElem?_cons_zero]) <;> rfl) (by kernel_rfl) (by kernel_rfl) (by kernel_rfl) (fun _ _ _ h => h) (Or.inl ⟨by rfl, fun w hSw => by ((try dsimp only at hSw); go_simp) <;> with_reducible rfl⟩) (by assumption) ?_
          (try simp only [Act.put, List.setIfInBounds_toArray, List.set_cons_zero, List.set_cons_succ])
          refine wpAnyH_take (i := 2) (v := _) (by (simp only [List.getElem?_toArray, List.getElem?_cons_succ, List.getElem?_cons_zero]) <;> rfl) (by kernel_rfl) (by kernel_rfl) (by kernel_rfl) (fun _ _ _ h => h) (Or.inl ⟨by rfl, fun w hSw => by ((try dsimp only at hSw); go_simp) <;> with_reducible rfl⟩) (by assumption) ?_
          (try simp only [Act.put, List.setIfInBounds_toArray, List.set_cons_zero, List.set_cons_succ])
          refine wpAnyH_take (i := 3) (v := _) (by (simp only [List.getElem?_toArray, List.getElem?_cons_succ, List.getElem?_cons_zero]) <;> rfl) (by kernel_rfl) (by kernel_rfl) (by kernel_rfl) (fun _ _ _ h => h) (Or.inl ⟨by rfl, fun w hSw => by ((try dsimp only at hSw); go_simp) <;> with_reducible rfl⟩) (by assumption) ?_
          (try simp only [Act.put, List.setIfInBounds_toArray, List.set_cons_zero, List.set_cons_succ])
          refine wpAnyH_take (i := 4) (v := _) (by (simp only [List.getElem?_toArray, List.getElem?_cons_succ, List.getElem?_cons_zero]) <;> rfl) (by kernel_rfl) (by kernel_rfl) (by kernel_rfl) (fun _ _ _ h => h) (Or.inl ⟨by rfl, fun w hSw => by ((try dsimp only at hSw); go_simp) <;> with_reducible rfl⟩) (by assumption) ?_
          (try simp only [Act.put, List.setIfInBounds_toArray, List.set_cons_zero, List.set_cons_succ])
          refine wpAnyH_take (i := 5) (v := _) (by (simp only [List.getElem?_toArray, List.getElem?_cons_succ, List.getElem?_cons_zero]) <;> rfl) (by kernel_rfl) (by kernel_rfl) (by kernel_rfl) (fun _ _ _ h => h) (Or.inl ⟨by rfl, fun w hSw => by ((try dsimp only at hSw); go_simp) <;> with_reducible rfl⟩) (by assumption) ?_
          (try simp only [Act.put, List.setIfInBounds_toArray, List.set_cons_zero, List.set_cons_succ])
          refine wpAnyH_take (i := 6) (v := _) (by (simp only [List.getElem?_toArray, List.getElem?_cons_succ, List.getElem?_cons_zero]) <;> rfl) (by kernel_rfl) (by kernel_rfl) (by kernel_rfl) (fun _ _ _ h => h) (Or.inl ⟨by rfl, fun w hSw => by ((try dsimp only at hSw); go_simp) <;> with_reducible rfl⟩) (by assumption) ?_
          (try simp only [Act.put, List.setIfInBounds_toArray, List.set_cons_zero, List.set_cons_succ])
          refine wpAnyH_ready (rs := [7]) (by kernel_rfl) (by simp) ?_
          refine AllReadyH.cons (by (simp only [List.getElem?_toArray, List.getElem?_cons_succ, List.getElem?_cons_zero]) <;> rfl) (fun K hK => ?_) AllReadyH.nil
          go_simp
          (go_at_call 43; refine (HCM.out _).mono ?_; rintro r w1 ⟨rfl, hb1⟩; have hB1 : Below wr.heap.size wr w1 := (by refine Below.trans ?_ (hb1.mono (by first | exact Nat.le_refl _ | omega | (simp; done) | (simp; omega))); repeat (first | exact Below.refl _ _ | assumption | refine Below.drew ?_ | refine belowDrewN ?_ _ | refine Below.alloc ?_ (by first | exact Nat.le_refl _ | omega | (simp; done) | (simp; omega)) _ | refine Below.setCell ?_ (by first | exact Nat.le_refl _ | omega | (simp; done) | (simp; omega)) _)); have O1 := Lib.hid (O.out.below hB1); have B1 := Box3.below B0 hB1 B0.size; have bx0 := B1.c0; have bx1 := B1.c1; have bx2 := B1.c2; have hs1 : w.heap.size + 1 ≤ w1.heap.size := (by have := hB1.size; omega); have x0 := (hB1.cell (p := ⟨b, off + k * 3, none⟩) hbb).trans c0; have x1 := (hB1.cell (p := ⟨b, off + k * 3 + 1, none⟩) hbb).trans c1; have x2 := (hB1.cell (p := ⟨b, off + k * 3 + 2, none⟩) hbb).trans c2; have BB := Lib.hid (hb.out.trans (hB1.mono (by have := hb.out.size; simp at this; omega))); clear hb1)
          refine hK.out _ _ (by simp [go_sem, *]) (fun hHeld => ?_)
          (try simp only [Act.put, List.setIfInBounds_toArray, List.set_cons_zero, List.set_cons_succ])
          refine wpAnyH_take (i := 8) (v := _) (by (simp only [List.getElem?_toArray, List.getElem?_cons_succ, List.getElem?_cons_zero]) <;> rfl) (by kernel_rfl) (by kernel_rfl) (by kernel_rfl) (fun _ _ _ h => h) (Or.inl ⟨by rfl, fun w hSw => by ((try dsimp only at hSw); go_simp) <;> with_reducible rfl⟩) (by assumption) ?_
          (try simp only [Act.put, List.setIfInBounds_toArray, List.set_cons_zero, List.set_cons_succ])
          refine wpAnyH_done (by kernel_rfl) ?_ _
          refine NoPanic.normal ?_
          go_wp2_with (first | (at_builtin; refine wpList_append_ent rfl (.tmp 30) (.tmp 32) rfl (w.heap.size + 1) _ o (ef, eb, ev) rfl O1.out rfl (by have := HOL.out; omega) hs1 ?_; intro va vc w4 hO4 hb4 hs4; have O4 := Lib.hid hO4; have y0 := hE.out w4 (BB.out.trans hb4) _ rfl; obtain ⟨y0, y1, y2⟩ := y0; have hs4' : w.heap.size + 1 ≤ w4.heap.size := Nat.le_trans hs1 hs4; have BB4 := Lib.hid (BB.out.trans hb4); clear hO4 hb4) | (at_builtin; refine wpList_append_ent rfl (.tmp 36) (.tmp 41) rfl (w.heap.size + 1) _ (o ++ [(ef, eb, ev)]) (f, bt, vi) rfl O4.out rfl (by have := HOL.out; (try rw [List.length_append]); (try rw [List.length_singleton]); omega) hs4' ?_; intro va5 vc5 w5 hO5 hb5 hs5; have O5 := Lib.hid hO5; have BB5 := Lib.hid (BB4.out.trans hb5); clear hO5 hb5))
          go_roundg (gk - 1)
          case measure => omega
          case rel => exact ⟨k + 1, ((o ++ [(ef, eb, ev)]) ++ [(f, bt, vi)]), true, by go_num, by first | rfl | simp, by have := HK.out; omega, Lib.hid (by first | exact O5.out | (have := O5.out; simpa using this)), Lib.hid (by rw [take_snoc (by rw [HN.out]; exact hkn), List.foldl_append, HF.out, HENT.out]; simp only [List.foldl_cons, List.foldl_nil, putStep, HCV.out]; simp [hgeP, hc00]), BB5⟩
      · rcases Int.lt_trichotomy c 0 with hsign | hsign | hsign
        · have hc0 : c < 0 := hsign
          have hge : decide (0 ≤ c) = false := decide_eq_false (by omega)
          have hne : (c != 0) = true := by simp; omega
          have hc00 : c ≠ 0 := by omega
          have hngeP : ¬ 0 ≤ c := by omega
          have HSG := Lib.hid hsign
          clear hsign
          go_wp2_with fail
          refine wp_region_noPanic ?_
          refine wp_region_held_drew (S := (fun w' => w'.cell? ⟨b, off + k * 3, none⟩ = some (.int .i64 f) ∧ w'.cell? ⟨b, off + k * 3 + 1, none⟩ = some (.int .i64 bt) ∧ w'.cell? ⟨w.heap.size, 0, none⟩ = some (.int .i64 ef) ∧ w'.cell? ⟨w.heap.size, 1, none⟩ = some (.int .i64 eb))) (by kernel_rfl) (by simp [go_sem, *]) (fun hHeld => ?_)
          refine wpAnyH_take (i := 0) (v := _) (by (simp only [List.getElem?_toArray, List.getElem?_cons_zero]) <;> rfl) (by kernel_rfl) (by kernel_rfl) (by kernel_rfl) (fun _ _ _ h => h) (Or.inl ⟨by rfl, fun w hSw => by ((try dsimp only at hSw); go_simp) <;> with_reducible rfl⟩) (by assumption) ?_
          (try simp only [Act.put, List.setIfInBounds_toArray, List.set_cons_zero, List.set_cons_succ])
          refine wpAnyH_take (i := 1) (v := _) (by (simp only [List.getElem?_toArray, List.getElem?_cons_succ, List.getElem?_cons_zero]) <;> rfl) (by kernel_rfl) (by kernel_rfl) (by kernel_rfl) (fun _ _ _ h => h) (Or.inl ⟨by rfl, fun w hSw => by ((try dsimp only at hSw); go_simp) <;> with_reducible rfl⟩) (by assumption) ?_
          (try simp only [Act.put, List.setIfInBounds_toArray, List.set_cons_zero, List.set_cons_succ])
          refine wpAnyH_take (i := 2) (v := _) (by (simp only [List.getElem?_toArray, List.getElem?_cons_succ, List.getElem?_cons_zero]) <;> rfl) (by kernel_rfl) (by kernel_rfl) (by kernel_rfl) (fun _ _ _ h => h) (Or.inl ⟨by rfl, fun w hSw => by ((try dsimp only at hSw); go_simp) <;> with_reducible rfl⟩) (by assumption) ?_
          (try simp only [Act.put, List.setIfInBounds_toArray, List.set_cons_zero, List.set_cons_succ])
          refine wpAnyH_take (i := 3) (v := _) (by (simp only [List.getElem?_toArray, List.getElem?_cons_succ, List.getElem?_cons_zero]) <;> rfl) (by kernel_rfl) (by kernel_rfl) (by kernel_rfl) (fun _ _ _ h => h) (Or.inl ⟨by rfl, fun w hSw => by ((try dsimp only at hSw); go_simp) <;> with_reducible rfl⟩) (by assumption) ?_
          (try simp only [Act.put, List.setIfInBounds_toArray, List.set_cons_zero, List.set_cons_succ])
          refine wpAnyH_take (i := 4) (v := _) (by (simp only [List.getElem?_toArray, List.getElem?_cons_succ, List.getElem?_cons_zero]) <;> rfl) (by kernel_rfl) (by kernel_rfl) (by kernel_rfl) (fun _ _ _ h => h) (Or.inl ⟨by rfl, fun w hSw => by ((try dsimp only at hSw); go_simp) <;> with_reducible rfl⟩) (by assumption) ?_
          (try simp only [Act.put, List.setIfInBounds_toArray, List.set_cons_zero, List.set_cons_succ])
          refine wpAnyH_take (i := 5) (v := _) (by (simp only [List.getElem?_toArray, List.getElem?_cons_succ, List.getElem?_cons_zero]) <;> rfl) (by kernel_rfl) (by kernel_rfl) (by kernel_rfl) (fun _ _ _ h => h) (Or.inl ⟨by rfl, fun w hSw => by ((try dsimp only at hSw); go_simp) <;> with_reducible rfl⟩) (by assumption) ?_
          (try simp only [Act.put, List.setIfInBounds_toArray, List.set_cons_zero, List.set_cons_succ])
          refine wpAnyH_take (i := 6) (v := _) (by (simp only [List.getElem?_toArray, List.getElem?_cons_succ, List.getElem?_cons_zero]) <;> rfl) (by kernel_rfl) (by kernel_rfl) (by kernel_rfl) (fun _ _ _ h => h) (Or.inl ⟨by rfl, fun w hSw => by ((try dsimp only at hSw); go_simp) <;> with_reducible rfl⟩) (by assumption) ?_
          (try simp only [Act.put, List.setIfInBounds_toArray, List.set_cons_zero, List.set_cons_succ])
          refine wpAnyH_ready (rs := [7]) (by kernel_rfl) (by simp) ?_
          refine AllReadyH.cons (by (simp only [List.getElem?_toArray, List.getElem?_cons_succ, List.getElem?_cons_zero]) <;> rfl) (fun K hK => ?_) AllReadyH.nil
          go_simp
          (go_at_call 43; refine (HCM.out _).mono ?_; rintro r w1 ⟨rfl, hb1⟩; have hB1 : Below wr.heap.size wr w1 := (by refine Below.trans ?_ (hb1.mono (by first | exact Nat.le_refl _ | omega | (simp; done) | (simp; omega))); repeat (first | exact Below.refl _ _ | assumption | refine Below.drew ?_ | refine belowDrewN ?_ _ | refine Below.alloc ?_ (by first | exact Nat.le_refl _ | omega | (simp; done) | (simp; omega)) _ | refine Below.setCell ?_ (by first | exact Nat.le_refl _ | omega | (simp; done) | (simp; omega)) _)); have O1 := Lib.hid (O.out.below hB1); have B1 := Box3.below B0 hB1 B0.size; have bx0 := B1.c0; have bx1 := B1.c1; have bx2 := B1.c2; have hs1 : w.heap.size + 1 ≤ w1.heap.size := (by have := hB1.size; omega); have x0 := (hB1.cell (p := ⟨b, off + k * 3, none⟩) hbb).trans c0; have x1 := (hB1.cell (p := ⟨b, off + k * 3 + 1, none⟩) hbb).trans c1; have x2 := (hB1.cell (p := ⟨b, off + k * 3 + 2, none⟩) hbb).trans c2; have BB := Lib.hid (hb.out.trans (hB1.mono (by have := hb.out.size; simp at this; omega))); clear hb1)
          refine hK.out _ _ (by simp [go_sem, *]) (fun hHeld => ?_)
          (try simp only [Act.put, List.setIfInBounds_toArray, List.set_cons_zero, List.set_cons_succ])
          refine wpAnyH_take (i := 8) (v := _) (by (simp only [List.getElem?_toArray, List.getElem?_cons_succ, List.getElem?_cons_zero]) <;> rfl) (by kernel_rfl) (by kernel_rfl) (by kernel_rfl) (fun _ _ _ h => h) (Or.inl ⟨by rfl, fun w hSw => by ((try dsimp only at hSw); go_simp) <;> with_reducible rfl⟩) (by assumption) ?_
          (try simp only [Act.put, List.setIfInBounds_toArray, List.set_cons_zero, List.set_cons_succ])
          refine wpAnyH_done (by kernel_rfl) ?_ _
          refine NoPanic.normal ?_
          go_wp2_with (at_builtin; refine wpList_append_ent rfl (.tmp 36) (.tmp 41) rfl (w.heap.size + 1) _ o (f, bt, vi) rfl O1.out rfl (by have := HOL.out; (try rw [List.length_append]); (try rw [List.length_singleton]); omega) hs1 ?_; intro va5 vc5 w5 hO5 hb5 hs5; have O5 := Lib.hid hO5; have BB5 := Lib.hid (BB.out.trans hb5); clear hO5 hb5)
          go_roundg (gk - 1)
          case measure => omega
          case rel => exact ⟨k + 1, (o ++ [(f, bt, vi)]), true, by go_num, by first | rfl | simp, by have := HK.out; omega, Lib.hid (by first | exact O5.out | (have := O5.out; simpa using this)), Lib.hid (by rw [take_snoc (by rw [HN.out]; exact hkn), List.foldl_append, HF.out, HENT.out]; simp only [List.foldl_cons, List.foldl_nil, putStep, HCV.out]; simp [hc00]), BB5⟩
        · have hge : decide (0 ≤ c) = true := decide_eq_true (by omega)
          have hne : (c != 0) = false := by simp [hsign]
          have hgeP : 0 ≤ c := by omega
          have HSG := Lib.hid hsign
          clear hsign
          go_wp2_with fail
          refine wp_region_noPanic ?_
          refine wp_region_held_drew (S := (fun w' => w'.cell? ⟨b, off + k * 3, none⟩ = some (.int .i64 f) ∧ w'.cell? ⟨b, off + k * 3 + 1, none⟩ = some (.int .i64 bt) ∧ w'.cell? ⟨w.heap.size, 0, none⟩ = some (.int .i64 ef) ∧ w'.cell? ⟨w.heap.size, 1, none⟩ = some (.int .i64 eb))) (by kernel_rfl) (by simp [go_sem, *]) (fun hHeld => ?_)
          refine wpAnyH_take (i := 0) (v := _) (by (simp only [List.getElem?_toArray, List.getElem?_cons_zero]) <;> rfl) (by kernel_rfl) (by kernel_rfl) (by kernel_rfl) (fun _ _ _ h => h) (Or.inl ⟨by rfl, fun w hSw => by ((try dsimp only at hSw); go_simp) <;> with_reducible rfl⟩) (by assumption) ?_
          (try simp only [Act.put, List.setIfInBounds_toArray, List.set_cons_zero, List.set_cons_succ])
          refine wpAnyH_take (i := 1) (v := _) (by (simp only [List.getElem?_toArray, List.getElem?_cons_succ, List.getElem?_cons_zero]) <;> rfl) (by kernel_rfl) (by kernel_rfl) (by kernel_rfl) (fun _ _ _ h => h) (Or.inl ⟨by rfl, fun w hSw => by ((try dsimp only at hSw); go_simp) <;> with_reducible rfl⟩) (by assumption) ?_
          (try simp only [Act.put, List.setIfInBounds_toArray, List.set_cons_zero, List.set_cons_succ])
          refine wpAnyH_take (i := 2) (v := _) (by (simp only [List.getElem?_toArray, List.getElem?_cons_succ, List.getElem?_cons_zero]) <;> rfl) (by kernel_rfl) (by kernel_rfl) (by kernel_rfl) (fun _ _ _ h => h) (Or.inl ⟨by rfl, fun w hSw => by ((try dsimp only at hSw); go_simp) <;> with_reducible rfl⟩) (by assumption) ?_
          (try simp only [Act.put, List.setIfInBounds_toArray, List.set_cons_zero, List.set_cons_succ])
          refine wpAnyH_take (i := 3) (v := _) (by (simp only [List.getElem?_toArray, List.getElem?_cons_succ, List.getElem?_cons_zero]) <;> rfl) (by kernel_rfl) (by kernel_rfl) (by kernel_rfl) (fun _ _ _ h => h) (Or.inl ⟨by rfl, fun w hSw => by ((try dsimp only at hSw); go_simp) <;> with_reducible rfl⟩) (by assumption) ?_
          (try simp only [Act.put, List.setIfInBounds_toArray, List.set_cons_zero, List.set_cons_succ])
          refine wpAnyH_take (i := 4) (v := _) (by (simp only [List.getElem?_toArray, List.getElem?_cons_succ, List.getElem?_cons_zero]) <;> rfl) (by kernel_rfl) (by kernel_rfl) (by kernel_rfl) (fun _ _ _ h => h) (Or.inl ⟨by rfl, fun w hSw => by ((try dsimp only at hSw); go_simp) <;> with_reducible rfl⟩) (by assumption) ?_
          (try simp only [Act.put, List.setIfInBounds_toArray, List.set_cons_zero, List.set_cons_succ])
          refine wpAnyH_take (i := 5) (v := _) (by (simp only [List.getElem?_toArray, List.getElem?_cons_succ, List.getElem?_cons_zero]) <;> rfl) (by kernel_rfl) (by kernel_rfl) (by kernel_rfl) (fun _ _ _ h => h) (Or.inl ⟨by rfl, fun w hSw => by ((try dsimp only at hSw); go_simp) <;> with_reducible rfl⟩) (by assumption) ?_
          (try simp only [Act.put, List.setIfInBounds_toArray, List.set_cons_zero, List.set_cons_succ])
          refine wpAnyH_take (i := 6) (v := _) (by (simp only [List.getElem?_toArray, List.getElem?_cons_succ, List.getElem?_cons_zero]) <;> rfl) (by kernel_rfl) (by kernel_rfl) (by kernel_rfl) (fun _ _ _ h => h) (Or.inl ⟨by rfl, fun w hSw => by ((try dsimp only at hSw); go_simp) <;> with_reducible rfl⟩) (by assumption) ?_
          (try simp only [Act.put, List.setIfInBounds_toArray, List.set_cons_zero, List.set_cons_succ])
          refine wpAnyH_ready (rs := [7]) (by kernel_rfl) (by simp) ?_
          refine AllReadyH.cons (by (simp only [List.getElem?_toArray, List.getElem?_cons_succ, List.getElem?_cons_zero]) <;> rfl) (fun K hK => ?_) AllReadyH.nil
          go_simp
          (go_at_call 43; refine (HCM.out _).mono ?_; rintro r w1 ⟨rfl, hb1⟩; have hB1 : Below wr.heap.size wr w1 := (by refine Below.trans ?_ (hb1.mono (by first | exact Nat.le_refl _ | omega | (simp; done) | (simp; omega))); repeat (first | exact Below.refl _ _ | assumption | refine Below.drew ?_ | refine belowDrewN ?_ _ | refine Below.alloc ?_ (by first | exact Nat.le_refl _ | omega | (simp; done) | (simp; omega)) _ | refine Below.setCell ?_ (by first | exact Nat.le_refl _ | omega | (simp; done) | (simp; omega)) _)); have O1 := Lib.hid (O.out.below hB1); have B1 := Box3.below B0 hB1 B0.size; have bx0 := B1.c0; have bx1 := B1.c1; have bx2 := B1.c2; have hs1 : w.heap.size + 1 ≤ w1.heap.size := (by have := hB1.size; omega); have x0 := (hB1.cell (p := ⟨b, off + k * 3, none⟩) hbb).trans c0; have x1 := (hB1.cell (p := ⟨b, off + k * 3 + 1, none⟩) hbb).trans c1; have x2 := (hB1.cell (p := ⟨b, off + k * 3 + 2, none⟩) hbb).trans c2; have BB := Lib.hid (hb.out.trans (hB1.mono (by have := hb.out.size; simp at this; omega))); clear hb1)
          refine hK.out _ _ (by simp [go_sem, *]) (fun hHeld => ?_)
          (try simp only [Act.put, List.setIfInBounds_toArray, List.set_cons_zero, List.set_cons_succ])
          refine wpAnyH_take (i := 8) (v := _) (by (simp only [List.getElem?_toArray, List.getElem?_cons_succ, List.getElem?_cons_zero]) <;> rfl) (by kernel_rfl) (by kernel_rfl) (by kernel_rfl) (fun _ _ _ h => h) (Or.inl ⟨by rfl, fun w hSw => by ((try dsimp only at hSw); go_simp) <;> with_reducible rfl⟩) (by assumption) ?_
          (try simp only [Act.put, List.setIfInBounds_toArray, List.set_cons_zero, List.set_cons_succ])
          refine wpAnyH_done (by kernel_rfl) ?_ _
          refine NoPanic.normal ?_
          go_wp2_with fail
          go_roundg (gk - 1)
          case measure => omega
          case rel => exact ⟨k + 1, o, true, by go_num, by first | rfl | simp, by have := HK.out; omega, Lib.hid (by first | exact O1.out | (have := O1.out; simpa using this)), Lib.hid (by rw [take_snoc (by rw [HN.out]; exact hkn), List.foldl_append, HF.out, HENT.out]; simp only [List.foldl_cons, List.foldl_nil, putStep, HCV.out]; simp [HSG.out]), BB⟩
        · have hge : decide (0 ≤ c) = true := decide_eq_true (by omega)
          have hne : (c != 0) = true := by simp; omega
          have hc00 : c ≠ 0 := by omega
          have hgeP : 0 ≤ c := by omega
          have HSG := Lib.hid hsign
          clear hsign
          go_wp2_with fail
          refine wp_region_noPanic ?_
          refine wp_region_held_drew (S := (fun w' => w'.cell? ⟨b, off + k * 3, none⟩ = some (.int .i64 f) ∧ w'.cell? ⟨b, off + k * 3 + 1, none⟩ = some (.int .i64 bt) ∧ w'.cell? ⟨w.heap.size, 0, none⟩ = some (.int .i64 ef) ∧ w'.cell? ⟨w.heap.size, 1, none⟩ = some (.int .i64 eb))) (by kernel_rfl) (by simp [go_sem, *]) (fun hHeld => ?_)
          refine wpAnyH_take (i := 0) (v := _) (by (simp only [List.getElem?_toArray, List.getElem?_cons_zero]) <;> rfl) (by kernel_rfl) (by kernel_rfl) (by kernel_rfl) (fun _ _ _ h => h) (Or.inl ⟨by rfl, fun w hSw => by ((try dsimp only at hSw); go_simp) <;> with_reducible rfl⟩) (by assumption) ?_
          (try simp only [Act.put, List.setIfInBounds_toArray, List.set_cons_zero, List.set_cons_succ])
          refine wpAnyH_take (i := 1) (v := _) (by (simp only [List.getElem?_toArray, List.getElem?_cons_succ, List.getElem?_cons_zero]) <;> rfl) (by kernel_rfl) (by kernel_rfl) (by kernel_rfl) (fun _ _ _ h => h) (Or.inl ⟨by rfl, fun w hSw => by ((try dsimp only at hSw); go_simp) <;> with_reducible rfl⟩) (by assumption) ?_
          (try simp only [Act.put, List.setIfInBounds_toArray, List.set_cons_zero, List.set_cons_succ])
          refine wpAnyH_take (i := 2) (v := _) (by (simp only [List.getElem?_toArray, List.getElem?_cons_succ, List.getElem?_cons_zero]) <;> rfl) (by kernel_rfl) (by kernel_rfl) (by kernel_rfl) (fun _ _ _ h => h) (Or.inl ⟨by rfl, fun w hSw => by ((try dsimp only at hSw); go_simp) <;> with_reducible rfl⟩) (by assumption) ?_
          (try simp only [Act.put, List.setIfInBounds_toArray, List.set_cons_zero, List.set_cons_succ])
          refine wpAnyH_take (i := 3) (v := _) (by (simp only [List.getElem?_toArray, List.getElem?_cons_succ, List.getElem?_cons_zero]) <;> rfl) (by kernel_rfl) (by kernel_rfl) (by kernel_rfl) (fun _ _ _ h => h) (Or.inl ⟨by rfl, fun w hSw => by ((try dsimp only at hSw); go_simp) <;> with_reducible rfl⟩) (by assumption) ?_
          (try simp only [Act.put, List.setIfInBounds_toArray, List.set_cons_zero, List.set_cons_succ])
          refine wpAnyH_take (i := 4) (v := _) (by (simp only [List.getElem?_toArray, List.getElem?_cons_succ, List.getElem?_cons_zero]) <;> rfl) (by kernel_rfl) (by kernel_rfl) (by kernel_rfl) (fun _ _ _ h => h) (Or.inl ⟨by rfl, fun w hSw => by ((try dsimp only at hSw); go_simp) <;> with_reducible rfl⟩) (by assumption) ?_
          (try simp only [Act.put, List.setIfInBounds_toArray, List.set_cons_zero, List.set_cons_succ])
          refine wpAnyH_take (i := 5) (v := _) (by (simp only [List.getElem?_toArray, List.getElem?_cons_succ, List.getElem?_cons_zero]) <;> rfl) (by kernel_rfl) (by kernel_rfl) (by kernel_rfl) (fun _ _ _ h => h) (Or.inl ⟨by rfl, fun w hSw => by ((try dsimp only at hSw); go_simp) <;> with_reducible rfl⟩) (by assumption) ?_
          (try simp only [Act.put, List.setIfInBounds_toArray, List.set_cons_zero, List.set_cons_succ])
          refine wpAnyH_take (i := 6) (v := _) (by (simp only [List.getElem?_toArray, List.getElem?_cons_succ, List.getElem?_cons_zero]) <;> rfl) (by kernel_rfl) (by kernel_rfl) (by kernel_rfl) (fun _ _ _ h => h) (Or.inl ⟨by rfl, fun w hSw => by ((try dsimp only at hSw); go_simp) <;> with_reducible rfl⟩) (by assumption) ?_
          (try simp only [Act.put, List.setIfInBounds_toArray, List.set_cons_zero, List.set_cons_succ])
          refine wpAnyH_ready (rs := [7]) (by kernel_rfl) (by simp) ?_
          refine AllReadyH.cons (by (simp only [List.getElem?_toArray, List.getElem?_cons_succ, List.getElem?_cons_zero]) <;> rfl) (fun K hK => ?_) AllReadyH.nil
          go_simp
          (go_at_call 43; refine (HCM.out _).mono ?_; rintro r w1 ⟨rfl, hb1⟩; have hB1 : Below wr.heap.size wr w1 := (by refine Below.trans ?_ (hb1.mono (by first | exact Nat.le_refl _ | omega | (simp; done) | (simp; omega))); repeat (first | exact Below.refl _ _ | assumption | refine Below.drew ?_ | refine belowDrewN ?_ _ | refine Below.alloc ?_ (by first | exact Nat.le_refl _ | omega | (simp; done) | (simp; omega)) _ | refine Below.setCell ?_ (by first | exact Nat.le_refl _ | omega | (simp; done) | (simp; omega)) _)); have O1 := Lib.hid (O.out.below hB1); have B1 := Box3.below B0 hB1 B0.size; have bx0 := B1.c0; have bx1 := B1.c1; have bx2 := B1.c2; have hs1 : w.heap.size + 1 ≤ w1.heap.size := (by have := hB1.size; omega); have x0 := (hB1.cell (p := ⟨b, off + k * 3, none⟩) hbb).trans c0; have x1 := (hB1.cell (p := ⟨b, off + k * 3 + 1, none⟩) hbb).trans c1; have x2 := (hB1.cell (p := ⟨b, off + k * 3 + 2, none⟩) hbb).trans c2; have BB := Lib.hid (hb.out.trans (hB1.mono (by have := hb.out.size; simp at this; omega))); clear hb1)
          refine hK.out _ _ (by simp [go_sem, *]) (fun hHeld => ?_)
          (try simp only [Act.put, List.setIfInBounds_toArray, List.set_cons_zero, List.set_cons_succ])
          refine wpAnyH_take (i := 8) (v := _) (by (simp only [List.getElem?_toArray, List.getElem?_cons_succ, List.getElem?_cons_zero]) <;> rfl) (by kernel_rfl) (by kernel_rfl) (by kernel_rfl) (fun _ _ _ h => h) (Or.inl ⟨by rfl, fun w hSw => by ((try dsimp only at hSw); go_simp) <;> with_reducible rfl⟩) (by assumption) ?_
          (try simp only [Act.put, List.setIfInBounds_toArray, List.set_cons_zero, List.set_cons_succ])
          refine wpAnyH_done (by kernel_rfl) ?_ _
          refine NoPanic.normal ?_
          go_wp2_with (at_builtin; refine wpList_append_ent rfl (.tmp 36) (.tmp 41) rfl (w.heap.size + 1) _ o (f, bt, vi) rfl O1.out rfl (by have := HOL.out; (try rw [List.length_append]); (try rw [List.length_singleton]); omega) hs1 ?_; intro va5 vc5 w5 hO5 hb5 hs5; have O5 := Lib.hid hO5; have BB5 := Lib.hid (BB.out.trans hb5); clear hO5 hb5)
          go_roundg (gk - 1)
          case measure => omega
          case rel => exact ⟨k + 1, (o ++ [(f, bt, vi)]), true, by go_num, by first | rfl | simp, by have := HK.out; omega, Lib.hid (by first | exact O5.out | (have := O5.out; simpa using this)), Lib.hid (by rw [take_snoc (by rw [HN.out]; exact hkn), List.foldl_append, HF.out, HENT.out]; simp only [List.foldl_cons, List.foldl_nil, putStep, HCV.out]; simp [hgeP, hc00]), BB5⟩
end Go.Proofs.YtnjkifnlimfhnaaDoor
