/- The program's penalty: what it tells of itself; a flap. -/
import Derived.Test.YtbjonkjigfnnnaaDampPen
import Derived.Deep.RegionHeld3
namespace Go.Proofs.Ytbjonkjigfnnnaa
open Go.RowKit Go.MuLone
set_option linter.unusedVariables false

theorem PenAt.alloc {w : World} {k : Nat} {s q T : Int} {o : Bool} (h : PenAt w k s q T o) (hk : k < w.heap.size) (b : Obj) : PenAt (w.alloc b) k s q T o := by
  refine ⟨?_, ?_, ?_, ?_, ?_, ?_, ?_, ?_⟩
  · rw [World.cell?_alloc_past _ _ _ hk]; exact h.c0
  · rw [World.cell?_alloc_past _ _ _ hk]; exact h.c1
  · rw [World.cell?_alloc_past _ _ _ hk]; exact h.c3
  · rw [World.cell?_alloc_past _ _ _ hk]; exact h.c4
  · rw [World.frozen?_alloc_past _ _ _ hk]; exact h.f0
  · rw [World.frozen?_alloc_past _ _ _ hk]; exact h.f1
  · rw [World.frozen?_alloc_past _ _ _ hk]; exact h.f3
  · rw [World.frozen?_alloc_past _ _ _ hk]; exact h.f4
theorem PenAt.drew {w : World} {k : Nat} {s q T : Int} {o : Bool} (h : PenAt w k s q T o) : PenAt w.drew k s q T o := ⟨h.c0, h.c1, h.c3, h.c4, h.f0, h.f1, h.f3, h.f4⟩

def TellPost (k : Nat) (q T : Int) (o : Bool) (w : World) (e : Ending) (w' : World) : Prop :=
  e = .returned (.agg #[.int .i64 q, .int .i64 T, .bool o]) ∧ Only k w w'

set_option maxHeartbeats 1000000 in
theorem tell_any (k : Nat) (q T : Int) (o : Bool) (w : World) (h : PenAt w k 0 q T o) (hk : k < w.heap.size) :
    Calls Try.prog 44 #[.pointer (some ⟨k, 0, none⟩)] w (TellPost k q T o w) := by
  have c1 : (w.alloc (.cells #[.int .i64 0, .int .i64 0, .bool false] 25)).cell? ⟨k, 1, none⟩ = some (.int .i32 0) := by rw [World.cell?_alloc_past _ _ _ hk]; exact h.c1
  have f1 : (w.alloc (.cells #[.int .i64 0, .int .i64 0, .bool false] 25)).frozen? ⟨k, 1, none⟩ = false := by rw [World.frozen?_alloc_past _ _ _ hk]; exact h.f1
  have H := Lib.hid h
  go_enter_defers Try.func44, Try.ntmps44
  go_wp2_with (go_at_call 48; refine (lock_free muLib ⟨k, 1, none⟩ _ c1 f1).mono ?_; rintro e w' ⟨rfl, rfl⟩)
  have c0 := h.c0
  have c3 := h.c3
  have c4 := h.c4
  clear h
  have hne : ¬ w.heap.size = k := by omega
  have hne2 : ¬ k = w.heap.size := by omega
  go_region_held3 (fun w' => w'.cell? ⟨k, 3, none⟩ = some (.int .i64 q) ∧ w'.cell? ⟨k, 0, none⟩ = some (.int .i64 T) ∧ w'.cell? ⟨k, 4, none⟩ = some (.bool o)) ((simp [go_sem, World.cell?_alloc_past, *])) ((fail))
  go_wp2_with fail
  refine leaves_cons (f := 49) (args := #[.pointer (some ⟨k, 1, none⟩)]) (by simp) (by simp [go_sem]) ?_
  have W1 : PenAt (((w.setCell ⟨k, 1, none⟩ (.int .i32 1)).alloc (.cells #[.int .i64 q, .int .i64 T, .bool o] 25)).drew) k 1 q T o := ((H.out.setS 1).alloc (by simpa using hk) _).drew
  refine (unlock_deferred muLib ⟨k, 1, none⟩ .returning _ W1.c1 W1.f1).mono ?_
  rintro e u' w'' ⟨rfl, rfl, rfl⟩
  refine ⟨.agg #[.int .i64 q, .int .i64 T, .bool o], by simp [results, Try.results44, go_sem], rfl, ?_⟩
  exact ((((Only.refl k w).setCell (p := ⟨k, 1, none⟩) rfl _).alloc _).drew).setCell (p := ⟨k, 1, none⟩) rfl _

set_option maxHeartbeats 1000000 in
theorem flap_any (k : Nat) (q T : Int) (o : Bool) (w : World) (h : PenAt w k 0 q T o) (hq0 : 0 ≤ q) (hq : q ≤ 9999) :
    Calls Try.prog 46 #[.pointer (some ⟨k, 0, none⟩)] w (HalvePost k (min (q + 100) 9999) T (o || decide (250 ≤ min (q + 100) 9999)) w) := by
  have c1 := h.c1
  have f1 := h.f1
  have c0 := h.c0
  have c3 := h.c3
  have c4 := h.c4
  have f3 := h.f3
  have f4 := h.f4
  have H := Lib.hid h
  clear h
  by_cases hm : q + 100 ≤ 9999
  · have hm2 : Hid (min (q + 100) 9999 = q + 100) := by unfold Hid; omega
    cases o
    · by_cases h2 : 250 ≤ q + 100
      · have hm3 : Hid ((false || decide (250 ≤ min (q + 100) 9999)) = true) := by unfold Hid; simp; omega
        go_enter_defers Try.func46, Try.ntmps46
        go_wp2_with (go_at_call 48; refine (lock_free muLib ⟨k, 1, none⟩ _ c1 f1).mono ?_; rintro e w' ⟨rfl, rfl⟩)
        have P := ((H.out.setS 1).setQ (q + 100)).setO true
        refine leaves_cons (f := 49) (args := #[.pointer (some ⟨k, 1, none⟩)]) (by simp) (by simp [go_sem]) ?_
        refine (unlock_deferred muLib ⟨k, 1, none⟩ .returning _ P.c1 P.f1).mono ?_
        rintro e u' w'' ⟨rfl, rfl, rfl⟩
        refine ⟨_, results_none rfl _ _ _, rfl, ?_, ((((Only.refl k w).setCell (p := ⟨k, 1, none⟩) rfl _).setCell (p := ⟨k, 3, none⟩) rfl _).setCell (p := ⟨k, 4, none⟩) rfl _).setCell (p := ⟨k, 1, none⟩) rfl _, by simp⟩
        rw [hm3.out, hm2.out]
        exact P.setS 0
      · have hm3 : Hid ((false || decide (250 ≤ min (q + 100) 9999)) = false) := by unfold Hid; simp; omega
        have h3 : decide (250 ≤ q + 100) = false := by simp; omega
        go_enter_defers Try.func46, Try.ntmps46
        go_wp2_with (go_at_call 48; refine (lock_free muLib ⟨k, 1, none⟩ _ c1 f1).mono ?_; rintro e w' ⟨rfl, rfl⟩)
        have P := ((H.out.setS 1).setQ (q + 100)).setO false
        refine leaves_cons (f := 49) (args := #[.pointer (some ⟨k, 1, none⟩)]) (by simp) (by simp [go_sem]) ?_
        refine (unlock_deferred muLib ⟨k, 1, none⟩ .returning _ P.c1 P.f1).mono ?_
        rintro e u' w'' ⟨rfl, rfl, rfl⟩
        refine ⟨_, results_none rfl _ _ _, rfl, ?_, ((((Only.refl k w).setCell (p := ⟨k, 1, none⟩) rfl _).setCell (p := ⟨k, 3, none⟩) rfl _).setCell (p := ⟨k, 4, none⟩) rfl _).setCell (p := ⟨k, 1, none⟩) rfl _, by simp⟩
        rw [hm3.out, hm2.out]
        exact P.setS 0
    · have hm3 : Hid ((true || decide (250 ≤ min (q + 100) 9999)) = true) := by unfold Hid; simp
      go_enter_defers Try.func46, Try.ntmps46
      go_wp2_with (go_at_call 48; refine (lock_free muLib ⟨k, 1, none⟩ _ c1 f1).mono ?_; rintro e w' ⟨rfl, rfl⟩)
      have P := ((H.out.setS 1).setQ (q + 100)).setO true
      refine leaves_cons (f := 49) (args := #[.pointer (some ⟨k, 1, none⟩)]) (by simp) (by simp [go_sem]) ?_
      refine (unlock_deferred muLib ⟨k, 1, none⟩ .returning _ P.c1 P.f1).mono ?_
      rintro e u' w'' ⟨rfl, rfl, rfl⟩
      refine ⟨_, results_none rfl _ _ _, rfl, ?_, ((((Only.refl k w).setCell (p := ⟨k, 1, none⟩) rfl _).setCell (p := ⟨k, 3, none⟩) rfl _).setCell (p := ⟨k, 4, none⟩) rfl _).setCell (p := ⟨k, 1, none⟩) rfl _, by simp⟩
      rw [hm3.out, hm2.out]
      exact P.setS 0
  · have hm2 : Hid (min (q + 100) 9999 = 9999) := by unfold Hid; omega
    have hm3 : Hid ((o || decide (250 ≤ min (q + 100) 9999)) = true) := by unfold Hid; cases o <;> simp <;> omega
    cases o
    · go_enter_defers Try.func46, Try.ntmps46
      go_wp2_with (go_at_call 48; refine (lock_free muLib ⟨k, 1, none⟩ _ c1 f1).mono ?_; rintro e w' ⟨rfl, rfl⟩)
      have P := ((H.out.setS 1).setQ (9999)).setO true
      refine leaves_cons (f := 49) (args := #[.pointer (some ⟨k, 1, none⟩)]) (by simp) (by simp [go_sem]) ?_
      refine (unlock_deferred muLib ⟨k, 1, none⟩ .returning _ P.c1 P.f1).mono ?_
      rintro e u' w'' ⟨rfl, rfl, rfl⟩
      refine ⟨_, results_none rfl _ _ _, rfl, ?_, ((((Only.refl k w).setCell (p := ⟨k, 1, none⟩) rfl _).setCell (p := ⟨k, 3, none⟩) rfl _).setCell (p := ⟨k, 4, none⟩) rfl _).setCell (p := ⟨k, 1, none⟩) rfl _, by simp⟩
      rw [hm3.out, hm2.out]
      exact P.setS 0
    · go_enter_defers Try.func46, Try.ntmps46
      go_wp2_with (go_at_call 48; refine (lock_free muLib ⟨k, 1, none⟩ _ c1 f1).mono ?_; rintro e w' ⟨rfl, rfl⟩)
      have P := ((H.out.setS 1).setQ (9999)).setO true
      refine leaves_cons (f := 49) (args := #[.pointer (some ⟨k, 1, none⟩)]) (by simp) (by simp [go_sem]) ?_
      refine (unlock_deferred muLib ⟨k, 1, none⟩ .returning _ P.c1 P.f1).mono ?_
      rintro e u' w'' ⟨rfl, rfl, rfl⟩
      refine ⟨_, results_none rfl _ _ _, rfl, ?_, ((((Only.refl k w).setCell (p := ⟨k, 1, none⟩) rfl _).setCell (p := ⟨k, 3, none⟩) rfl _).setCell (p := ⟨k, 4, none⟩) rfl _).setCell (p := ⟨k, 1, none⟩) rfl _, by simp⟩
      rw [hm3.out, hm2.out]
      exact P.setS 0
end Go.Proofs.Ytbjonkjigfnnnaa
