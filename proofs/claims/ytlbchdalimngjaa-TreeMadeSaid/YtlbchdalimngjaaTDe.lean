/- Parts of a proof, joined by a program: TreeMade: parts of a tree that was put together are those that it was made of, for any twig and parts (no condition). -/
import Derived.Laws.EntriesVeiled
import Derived.Test.YtlbchdalimngjaaTDd
namespace Go.Proofs.Ytlbchdalimngjaa.P
open Go.RowKit Go.Proofs.YtlbchdalimngjaaW.PrintWords Go.Proofs.YtlbchdalimngjaaW.PrintLast Go.Proofs.YtlbchdalimngjaaW.PrintMore
attribute [local go_sem] max2_int min2_int max_two min_two max_three min_three max_four min_four
set_option linter.unusedVariables false
set_option linter.unusedSimpArgs false
attribute [local go_sem high] eqA43
def prompterref08_Alike.l0 : Nat → List (S43) → List (S43) → Int → Option (Bool)
  | 0, _, _, _ => none
  | k + 1, x0, x1, x5 => if x5 < (x0.length : Int) then (if 0 ≤ x5 then (if x5 < (x1.length : Int) then (if (!(((rd_T43 x0 x5).f0) == ((rd_T43 x1 x5).f0)) || (!(((rd_T43 x0 x5).f1) == ((rd_T43 x1 x5).f1)) || (!(((rd_T43 x0 x5).f2) == ((rd_T43 x1 x5).f2)) || (!((((rd_T43 x0 x5).f3).toList) == (((rd_T43 x1 x5).f3).toList)))))) = true then (some false) else (prompterref08_Alike.l0 k x0 x1 (wrap64 (x5 + 1)))) else (none)) else (none)) else (some true)
def prompterref08_Alike.f (k : Nat) (l0 : List (S43)) (l1 : List (S43)) : Option (Bool) := if (l0.length : Int) = (l1.length : Int) then (prompterref08_Alike.l0 k l0 l1 0) else (some false)
theorem prompterref08_Alike.mono_l : ∀ k, (∀ y0 y1 y2, LeO (prompterref08_Alike.l0 k y0 y1 y2) (prompterref08_Alike.l0 (k + 1) y0 y1 y2))
  | 0 => fun _ _ _ r h => by simp [prompterref08_Alike.l0] at h
  | k + 1 => by
    have ih0 := prompterref08_Alike.mono_l k
    · intro y0 y1 y2
      unfold prompterref08_Alike.l0
      repeat' first
      | (with_reducible exact ih0 _ _ _)
      | (with_reducible exact LeO.refl _)
      | (with_reducible exact LeO.none _)
      | (with_reducible refine LeO.ite ?_ ?_)
      | (with_reducible refine LeO.bind ?_ (fun _ => ?_))
      | exact ih0 _ _ _
      | exact LeO.none _
      | refine LeO.ite ?_ ?_
      | refine LeO.bind ?_ (fun _ => ?_)
theorem prompterref08_Alike.mono : ∀ a0 a1 k, LeO (prompterref08_Alike.f k a0 a1) (prompterref08_Alike.f (k + 1) a0 a1) := by
  intro a0 a1 k
  have ih0 := prompterref08_Alike.mono_l k
  unfold prompterref08_Alike.f
  repeat' first
      | (with_reducible exact ih0 _ _ _)
      | (with_reducible exact LeO.refl _)
      | (with_reducible exact LeO.none _)
      | (with_reducible refine LeO.ite ?_ ?_)
      | (with_reducible refine LeO.bind ?_ (fun _ => ?_))
      | exact ih0 _ _ _
      | exact LeO.none _
      | refine LeO.ite ?_ ?_
      | refine LeO.bind ?_ (fun _ => ?_)
set_option maxHeartbeats 8000000 in
set_option maxRecDepth 100000 in
theorem prompterref08_Alike.calls (k : Nat) (A0 : Option Addr) (c0 : Nat) (l0 : List (S43)) (A1 : Option Addr) (c1 : Nat) (l1 : List (S43)) (r : Bool) (w : World) (hr0 : Kd.C k43 w A0 l0.length l0) (hc0 : l0.length ≤ c0) (hr1 : Kd.C k43 w A1 l1.length l1) (hc1 : l1.length ≤ c1) (h : prompterref08_Alike.f k l0 l1 = some r) :
    Calls Try.prog 28 #[.slice A0 l0.length c0, .slice A1 l1.length c1] w fun e w' => e = .returned (.bool r) ∧ Drawn0 w w' := by
  have hu43 := Try.underlying43
  have HR0 := Aside0.mk hr0
  have HC0 := Aside0.mk hc0
  clear hr0 hc0
  have HR1 := Aside0.mk hr1
  have HC1 := Aside0.mk hc1
  clear hr1 hc1
  have H : (if (l0.length : Int) = (l1.length : Int) then (prompterref08_Alike.l0 k l0 l1 0) else (some false)) = some r := h
  clear h
  by_cases c3 : (l0.length : Int) = (l1.length : Int)
  · rw [if_pos c3] at H
    have c3b0 : ((l0.length : Int) == (l1.length : Int)) = true := beq_iff_eq.mpr c3
    have c3b1 : ((l0.length : Int) != (l1.length : Int)) = false := bne_eq_false_iff_eq.mpr c3
    have c3b2 : (l0.length == l1.length) = true := by first | simpa using c3 | (simp at c3 ⊢; omega)
    clear c3
    have H' := Aside0.mk H
    clear H
    go_enter Try.func28, Try.ntmps28
    go_wp2
    repeat (go_quiet (fail); try go_wp2)
    go_loopg [5] k (fun kq v5 w' => ∃ (x5_1 : Int), v5 = .int .i64 x5_1 ∧ Aside0 (prompterref08_Alike.l0 kq l0 l1 x5_1 = some r) ∧ Aside0 (kq ≤ k) ∧ Drawn0 w w')
    case atStart => exact ⟨(0), (by first | rfl | (simp; done) | (simp [*]; done)), H', ⟨Nat.le_refl _⟩, by repeat (first | exact Drawn0.refl _ | apply Drawn0.step)⟩
    case round =>
      clear H'
      try clear c1
      try clear c2
      try clear p2
      try clear c3
      try clear c3b0
      try clear c3b1
      try clear c3b2
      obtain ⟨x5_1, rfl, HA, HK1, ⟨m1, rfl⟩⟩ := hrel
      cases gk with
      | zero => exact absurd HA.out (by simp [prompterref08_Alike.l0])
      | succ k1 =>
        have H := HA.out
        clear HA
        simp only [prompterref08_Alike.l0] at H
        by_cases c4 : x5_1 < (l0.length : Int)
        · rw [if_pos c4] at H
          have c4b0 : decide (x5_1 < (l0.length : Int)) = true := decide_eq_true c4
          clear c4
          by_cases c5 : 0 ≤ x5_1
          · rw [if_pos c5] at H
            have c5b0 : decide (0 ≤ x5_1) = true := decide_eq_true c5
            clear c5
            by_cases c6 : x5_1 < (l1.length : Int)
            · rw [if_pos c6] at H
              have c6b0 : decide (x5_1 < (l1.length : Int)) = true := decide_eq_true c6
              clear c6
              by_cases c7 : (!(((rd_T43 l0 x5_1).f0) == ((rd_T43 l1 x5_1).f0)) || (!(((rd_T43 l0 x5_1).f1) == ((rd_T43 l1 x5_1).f1)) || (!(((rd_T43 l0 x5_1).f2) == ((rd_T43 l1 x5_1).f2)) || (!((((rd_T43 l0 x5_1).f3).toList) == (((rd_T43 l1 x5_1).f3).toList)))))) = true
              · rw [if_pos c7] at H
                have c7b0 : (!(((rd_T43 l0 x5_1).f0) == ((rd_T43 l1 x5_1).f0)) || (!(((rd_T43 l0 x5_1).f1) == ((rd_T43 l1 x5_1).f1)) || (!(((rd_T43 l0 x5_1).f2) == ((rd_T43 l1 x5_1).f2)) || (!((((rd_T43 l0 x5_1).f3).toList) == (((rd_T43 l1 x5_1).f3).toList)))))) = true := c7
                clear c7
                obtain rfl := Option.some.inj H
                have p440 : 0 ≤ (x5_1 : Int) := of_decide_eq_true (by first | (with_reducible assumption) | assumption)
                have q440 : x5_1 < (l0.length : Int) := of_decide_eq_true (by first | (with_reducible assumption) | assumption)
                obtain ⟨ad440, e440, hx440_0, hx440_1, hx440_2, hx440_3⟩ := at_T43 HR0.out x5_1 p440 q440
                cases e440
                replace p440 := eq_true p440
                replace q440 := eq_true q440
                have p441 : 0 ≤ (x5_1 : Int) := of_decide_eq_true (by first | (with_reducible assumption) | assumption)
                have q441 : x5_1 < (l1.length : Int) := of_decide_eq_true (by first | (with_reducible assumption) | assumption)
                obtain ⟨ad441, e441, hx441_0, hx441_1, hx441_2, hx441_3⟩ := at_T43 HR1.out x5_1 p441 q441
                cases e441
                replace p441 := eq_true p441
                replace q441 := eq_true q441
                go_wp2
                repeat (go_quiet (fail); try go_wp2)
                go_ret
                exact ⟨by first | rfl | (simp; done) | (simp [*]; done), by repeat (first | exact Drawn0.refl _ | apply Drawn0.step)⟩
              · rw [if_neg c7] at H
                have c7b0 : (!(((rd_T43 l0 x5_1).f0) == ((rd_T43 l1 x5_1).f0)) || (!(((rd_T43 l0 x5_1).f1) == ((rd_T43 l1 x5_1).f1)) || (!(((rd_T43 l0 x5_1).f2) == ((rd_T43 l1 x5_1).f2)) || (!((((rd_T43 l0 x5_1).f3).toList) == (((rd_T43 l1 x5_1).f3).toList)))))) = false := by simpa using c7
                clear c7
                have H' := Aside0.mk H
                clear H
                have p440 : 0 ≤ (x5_1 : Int) := of_decide_eq_true (by first | (with_reducible assumption) | assumption)
                have q440 : x5_1 < (l0.length : Int) := of_decide_eq_true (by first | (with_reducible assumption) | assumption)
                obtain ⟨ad440, e440, hx440_0, hx440_1, hx440_2, hx440_3⟩ := at_T43 HR0.out x5_1 p440 q440
                cases e440
                replace p440 := eq_true p440
                replace q440 := eq_true q440
                have p441 : 0 ≤ (x5_1 : Int) := of_decide_eq_true (by first | (with_reducible assumption) | assumption)
                have q441 : x5_1 < (l1.length : Int) := of_decide_eq_true (by first | (with_reducible assumption) | assumption)
                obtain ⟨ad441, e441, hx441_0, hx441_1, hx441_2, hx441_3⟩ := at_T43 HR1.out x5_1 p441 q441
                cases e441
                replace p441 := eq_true p441
                replace q441 := eq_true q441
                go_wp2
                repeat (go_quiet (fail); try go_wp2)
                go_roundg k1
                case measure => have := HK1.out; omega
                case rel => exact ⟨(wrap64 (x5_1 + 1)), (by first | rfl | (simp; done) | (simp [*]; done)), H', ⟨by have := HK1.out; omega⟩, by repeat (first | exact Drawn0.refl _ | apply Drawn0.step)⟩
            · rw [if_neg c6] at H
              exact absurd H (by simp)
          · rw [if_neg c5] at H
            exact absurd H (by simp)
        · rw [if_neg c4] at H
          have c4b0 : decide (x5_1 < (l0.length : Int)) = false := decide_eq_false c4
          clear c4
          obtain rfl := Option.some.inj H
          go_wp2
          repeat (go_quiet (fail); try go_wp2)
          go_ret
          exact ⟨by first | rfl | (simp; done) | (simp [*]; done), by repeat (first | exact Drawn0.refl _ | apply Drawn0.step)⟩
  · rw [if_neg c3] at H
    have c3b0 : ((l0.length : Int) == (l1.length : Int)) = false := beq_eq_false_iff_ne.mpr c3
    have c3b1 : ((l0.length : Int) != (l1.length : Int)) = true := bne_iff_ne.mpr c3
    have c3b2 : (l0.length == l1.length) = false := by first | simpa using c3 | (simp at c3 ⊢; omega)
    obtain rfl := Option.some.inj H
    go_enter Try.func28, Try.ntmps28
    go_wp2
    repeat (go_quiet (fail); try go_wp2)
    go_ret
    exact ⟨by first | rfl | (simp; done) | (simp [*]; done), by repeat (first | exact Drawn0.refl _ | apply Drawn0.step)⟩
def prompterlaw08_Many.l0 : Nat → List (List (S43)) → Int → Int → Option (Bool)
  | 0, _, _, _ => none
  | k + 1, x0, x3, x4 => if x4 < (x0.length : Int) then (if x3 > 6000 then (some true) else (if x4 > 3000 then (some true) else (if 0 ≤ x4 then (prompterlaw08_Many.l0 k x0 (wrap64 (x3 + ((rd_L6 x0 x4).length : Int))) (wrap64 (x4 + 1))) else (none)))) else (some (decide (x3 > 6000)))
def prompterlaw08_Many.f (k : Nat) (l0 : List (List (S43))) : Option (Bool) := prompterlaw08_Many.l0 k l0 0 0
theorem prompterlaw08_Many.mono_l : ∀ k, (∀ y0 y1 y2, LeO (prompterlaw08_Many.l0 k y0 y1 y2) (prompterlaw08_Many.l0 (k + 1) y0 y1 y2))
  | 0 => fun _ _ _ r h => by simp [prompterlaw08_Many.l0] at h
  | k + 1 => by
    have ih0 := prompterlaw08_Many.mono_l k
    · intro y0 y1 y2
      unfold prompterlaw08_Many.l0
      repeat' first
      | (with_reducible exact ih0 _ _ _)
      | (with_reducible exact LeO.refl _)
      | (with_reducible exact LeO.none _)
      | (with_reducible refine LeO.ite ?_ ?_)
      | (with_reducible refine LeO.bind ?_ (fun _ => ?_))
      | exact ih0 _ _ _
      | exact LeO.none _
      | refine LeO.ite ?_ ?_
      | refine LeO.bind ?_ (fun _ => ?_)
theorem prompterlaw08_Many.mono : ∀ a0 k, LeO (prompterlaw08_Many.f k a0) (prompterlaw08_Many.f (k + 1) a0) := by
  intro a0 k
  have ih0 := prompterlaw08_Many.mono_l k
  unfold prompterlaw08_Many.f
  repeat' first
      | (with_reducible exact ih0 _ _ _)
      | (with_reducible exact LeO.refl _)
      | (with_reducible exact LeO.none _)
      | (with_reducible refine LeO.ite ?_ ?_)
      | (with_reducible refine LeO.bind ?_ (fun _ => ?_))
      | exact ih0 _ _ _
      | exact LeO.none _
      | refine LeO.ite ?_ ?_
      | refine LeO.bind ?_ (fun _ => ?_)
set_option maxHeartbeats 8000000 in
set_option maxRecDepth 100000 in
theorem prompterlaw08_Many.calls (k : Nat) (A0 : Option Addr) (c0 : Nat) (l0 : List (List (S43))) (r : Bool) (w : World) (hr0 : Kd.C (Kd.slice 43 k43) w A0 l0.length l0) (hc0 : l0.length ≤ c0) (h : prompterlaw08_Many.f k l0 = some r) :
    Calls Try.prog 29 #[.slice A0 l0.length c0] w fun e w' => e = .returned (.bool r) ∧ Drawn0 w w' := by
  have HR0 := Aside0.mk hr0
  have HC0 := Aside0.mk hc0
  clear hr0 hc0
  have H : (prompterlaw08_Many.l0 k l0 0 0) = some r := h
  clear h
  have H' := Aside0.mk H
  clear H
  go_enter Try.func29, Try.ntmps29
  go_wp2
  go_loopg [3, 4] k (fun kq v3 v4 w' => ∃ (x3_1 : Int) (x4_1 : Int), v3 = .int .i64 x3_1 ∧ v4 = .int .i64 x4_1 ∧ Aside0 (prompterlaw08_Many.l0 kq l0 x3_1 x4_1 = some r) ∧ Aside0 (kq ≤ k) ∧ Drawn0 w w')
  case atStart => exact ⟨(0), (0), (by first | rfl | (simp; done) | (simp [*]; done)), (by first | rfl | (simp; done) | (simp [*]; done)), H', ⟨Nat.le_refl _⟩, by repeat (first | exact Drawn0.refl _ | apply Drawn0.step)⟩
  case round =>
    clear H'
    obtain ⟨x3_1, x4_1, rfl, rfl, HA, HK1, ⟨m1, rfl⟩⟩ := hrel
    cases gk with
    | zero => exact absurd HA.out (by simp [prompterlaw08_Many.l0])
    | succ k1 =>
      have H := HA.out
      clear HA
      simp only [prompterlaw08_Many.l0] at H
      by_cases c2 : x4_1 < (l0.length : Int)
      · rw [if_pos c2] at H
        have c2b0 : decide (x4_1 < (l0.length : Int)) = true := decide_eq_true c2
        clear c2
        by_cases c3 : x3_1 > 6000
        · rw [if_pos c3] at H
          have c3b0 : decide (6000 < x3_1) = true := decide_eq_true c3
          clear c3
          obtain rfl := Option.some.inj H
          go_wp2
          go_ret
          exact ⟨by first | rfl | (simp; done) | (simp [*]; done), by repeat (first | exact Drawn0.refl _ | apply Drawn0.step)⟩
        · rw [if_neg c3] at H
          have c3b0 : decide (6000 < x3_1) = false := decide_eq_false c3
          clear c3
          by_cases c4 : x4_1 > 3000
          · rw [if_pos c4] at H
            have c4b0 : decide (3000 < x4_1) = true := decide_eq_true c4
            clear c4
            obtain rfl := Option.some.inj H
            go_wp2
            go_ret
            exact ⟨by first | rfl | (simp; done) | (simp [*]; done), by repeat (first | exact Drawn0.refl _ | apply Drawn0.step)⟩
          · rw [if_neg c4] at H
            have c4b0 : decide (3000 < x4_1) = false := decide_eq_false c4
            clear c4
            by_cases c5 : 0 ≤ x4_1
            · rw [if_pos c5] at H
              have c5b0 : decide (0 ≤ x4_1) = true := decide_eq_true c5
              clear c5
              have H' := Aside0.mk H
              clear H
              have p466 : 0 ≤ (x4_1 : Int) := of_decide_eq_true (by first | (with_reducible assumption) | assumption)
              have q466 : x4_1 < (l0.length : Int) := of_decide_eq_true (by first | (with_reducible assumption) | assumption)
              obtain ⟨ad466, A466_0, c466_0, e466, hx466_0, hl466_0, hi466_0⟩ := at_L6 HR0.out x4_1 p466 q466
              cases e466
              have HR466_0 := Aside0.mk hi466_0
              have HC466_0 := Aside0.mk hl466_0
              clear hi466_0 hl466_0
              replace p466 := eq_true p466
              replace q466 := eq_true q466
              go_wp2
              go_roundg k1
              case measure => have := HK1.out; omega
              case rel => exact ⟨(wrap64 (x3_1 + ((rd_L6 l0 x4_1).length : Int))), (wrap64 (x4_1 + 1)), (by first | rfl | (simp; done) | (simp [*]; done)), (by first | rfl | (simp; done) | (simp [*]; done)), H', ⟨by have := HK1.out; omega⟩, by repeat (first | exact Drawn0.refl _ | apply Drawn0.step)⟩
            · rw [if_neg c5] at H
              exact absurd H (by simp)
      · rw [if_neg c2] at H
        have c2b0 : decide (x4_1 < (l0.length : Int)) = false := decide_eq_false c2
        clear c2
        obtain rfl := Option.some.inj H
        go_wp2
        go_ret
        exact ⟨by first | rfl | (simp; done) | (simp [*]; done), by repeat (first | exact Drawn0.refl _ | apply Drawn0.step)⟩
mutual
def prompterref08_Make.l0 : Nat → List (List (S43)) → Int → Int → Int → Int → ByteArray → Option ((List (S43)) × Int)
  | 0, _, _, _, _, _, _ => none
  | k + 1, x1, x6, x481000, x481001, x481002, x481003 => if x6 < (x1.length : Int) then (if 0 ≤ x6 then ((prompterref08_Check.f k (rd_L6 x1 x6)).bind fun bt482 => (if bt482.2 = 0 then (prompterref08_Make.l0 k x1 (wrap64 (x6 + 1)) x481000 x481001 x481002 x481003) else (some (([] : List (S43)), bt482.2)))) else (none)) else (if (x1.length : Int) > 2048 then (some (([] : List (S43)), 2)) else (prompterref08_Make.l1 k x1 (([(⟨x481000, (x1.length : Int), x481002, x481003⟩ : S43)] : List (S43))) 0))
def prompterref08_Make.l1 : Nat → List (List (S43)) → List (S43) → Int → Option ((List (S43)) × Int)
  | 0, _, _, _ => none
  | k + 1, x1, x9, x10 => if x10 < (x1.length : Int) then (if 0 ≤ x10 then (if x9.length + (rd_L6 x1 x10).length < 3518437208883 then ((some (x9 ++ (rd_L6 x1 x10) : List (S43))).bind fun y488 => (if (y488.length : Int) > 2048 then (some (([] : List (S43)), 2)) else (prompterref08_Make.l1 k x1 y488 (wrap64 (x10 + 1))))) else (none)) else (none)) else ((prompterref08_Check.f k x9).bind fun bt491 => (if bt491.2 = 0 then (some (x9, 0)) else (some (([] : List (S43)), bt491.2))))
end
def prompterref08_Make.f (k : Nat) (a0_0 : Int) (a0_1 : Int) (a0_2 : Int) (a0_3 : ByteArray) (l1 : List (List (S43))) : Option ((List (S43)) × Int) := prompterref08_Make.l0 k l1 0 a0_0 a0_1 a0_2 a0_3
theorem prompterref08_Make.mono_l : ∀ k, (∀ y0 y1 y2 y3 y4 y5, LeO (prompterref08_Make.l0 k y0 y1 y2 y3 y4 y5) (prompterref08_Make.l0 (k + 1) y0 y1 y2 y3 y4 y5)) ∧ (∀ y0 y1 y2, LeO (prompterref08_Make.l1 k y0 y1 y2) (prompterref08_Make.l1 (k + 1) y0 y1 y2))
  | 0 => ⟨fun _ _ _ _ _ _ r h => by simp [prompterref08_Make.l0] at h, fun _ _ _ r h => by simp [prompterref08_Make.l1] at h⟩
  | k + 1 => by
    obtain ⟨ih0, ih1⟩ := prompterref08_Make.mono_l k
    refine ⟨?_, ?_⟩
    · intro y0 y1 y2 y3 y4 y5
      unfold prompterref08_Make.l0
      repeat' first
      | (with_reducible exact ih0 _ _ _ _ _ _)
      | (with_reducible exact ih1 _ _ _)
      | (with_reducible exact prompterref08_Check.mono _ _)
      | (with_reducible exact LeO.refl _)
      | (with_reducible exact LeO.none _)
      | (with_reducible refine LeO.ite ?_ ?_)
      | (with_reducible refine LeO.bind ?_ (fun _ => ?_))
      | exact ih0 _ _ _ _ _ _
      | exact ih1 _ _ _
      | exact prompterref08_Check.mono _ _
      | exact LeO.none _
      | refine LeO.ite ?_ ?_
      | refine LeO.bind ?_ (fun _ => ?_)
    · intro y0 y1 y2
      unfold prompterref08_Make.l1
      repeat' first
      | (with_reducible exact ih0 _ _ _ _ _ _)
      | (with_reducible exact ih1 _ _ _)
      | (with_reducible exact prompterref08_Check.mono _ _)
      | (with_reducible exact LeO.refl _)
      | (with_reducible exact LeO.none _)
      | (with_reducible refine LeO.ite ?_ ?_)
      | (with_reducible refine LeO.bind ?_ (fun _ => ?_))
      | exact ih0 _ _ _ _ _ _
      | exact ih1 _ _ _
      | exact prompterref08_Check.mono _ _
      | exact LeO.none _
      | refine LeO.ite ?_ ?_
      | refine LeO.bind ?_ (fun _ => ?_)
theorem prompterref08_Make.mono : ∀ a0 a1 a2 a3 a4 k, LeO (prompterref08_Make.f k a0 a1 a2 a3 a4) (prompterref08_Make.f (k + 1) a0 a1 a2 a3 a4) := by
  intro a0 a1 a2 a3 a4 k
  obtain ⟨ih0, ih1⟩ := prompterref08_Make.mono_l k
  unfold prompterref08_Make.f
  repeat' first
      | (with_reducible exact ih0 _ _ _ _ _ _)
      | (with_reducible exact ih1 _ _ _)
      | (with_reducible exact prompterref08_Check.mono _ _)
      | (with_reducible exact LeO.refl _)
      | (with_reducible exact LeO.none _)
      | (with_reducible refine LeO.ite ?_ ?_)
      | (with_reducible refine LeO.bind ?_ (fun _ => ?_))
      | exact ih0 _ _ _ _ _ _
      | exact ih1 _ _ _
      | exact prompterref08_Check.mono _ _
      | exact LeO.none _
      | refine LeO.ite ?_ ?_
      | refine LeO.bind ?_ (fun _ => ?_)
set_option maxHeartbeats 8000000 in
set_option maxRecDepth 100000 in
theorem prompterref08_Make.calls (k : Nat) (a0_0 : Int) (a0_1 : Int) (a0_2 : Int) (a0_3 : ByteArray) (A1 : Option Addr) (c1 : Nat) (l1 : List (List (S43))) (r1 : List (S43)) (r2 : Int) (w : World) (hr1 : Kd.C (Kd.slice 43 k43) w A1 l1.length l1) (hc1 : l1.length ≤ c1) (h : prompterref08_Make.f k a0_0 a0_1 a0_2 a0_3 l1 = some (r1, r2)) :
    Calls Try.prog 31 #[.agg #[.int .u8 a0_0, .int .i64 a0_1, .int .i64 a0_2, .string a0_3], .slice A1 l1.length c1] w fun e w' => ∃ v0_ : Value, e = .returned (.tuple #[v0_, .int .i64 r2]) ∧ Kd.R k43 43 w' w.heap.size (fun _ => True) v0_ r1 ∧ Below w.heap.size w w' := by
  have hu43 := Try.underlying43
  have HR1 := Aside0.mk hr1
  have HC1 := Aside0.mk hc1
  clear hr1 hc1
  have HB := Aside0.mk (Below.refl w.heap.size w)
  have H : (prompterref08_Make.l0 k l1 0 a0_0 a0_1 a0_2 a0_3) = some (r1, r2) := h
  clear h
  have H' := Aside0.mk H
  clear H
  go_enter Try.func31, Try.ntmps31
  go_wp2_with (first | ((with_reducible refine gate_dst (N := 2) rfl ?_); refine box_event ?hg (N := 2) ?hd (cs := #[.int .u8 a0_0, .int .i64 a0_1, .int .i64 a0_2, .string a0_3]) (t := 43) ?hr ?_; (case hd => rfl); (case hg => rfl); (case hr => first | (go_simp; done) | (go_simp; rfl)); intro gb480 hg w3 hbox hb; have n0_ := Aside0.mk (below_step (by repeat (first | (with_reducible first | exact HB.out | apply below_alloc | apply pw_below_drewN | apply below_drew1) | exact HB.out)) hb); have n1_ := Aside0.mk (hbox); have n2_ := Aside0.mk ((by rw [hg]; exact (below_size (by repeat (first | (with_reducible first | exact HB.out | apply below_alloc | apply pw_below_drewN | apply below_drew1) | exact HB.out))) : w.heap.size ≤ gb480)); have n3_ := Aside0.mk ((by rw [hg]; exact (below_size (by repeat (first | (with_reducible first | exact HB.out | apply below_alloc | apply pw_below_drewN | apply below_drew1) | exact HB.out))) : w.heap.size ≤ gb480)); clear HB; have HB := n0_; have BK480 := n1_; have GW480 := n2_; have GE480 := n3_; clear n0_ n1_ n2_ n3_; clear hb hbox hg))
  go_loopg [6] k (fun kq v6 w' => ∃ (x6_1 : Int), v6 = .int .i64 x6_1 ∧ Aside0 (prompterref08_Make.l0 kq l1 x6_1 a0_0 a0_1 a0_2 a0_3 = some (r1, r2)) ∧ Aside0 (kq ≤ k) ∧ Aside0 (w'.heap[gb480]? = some (.cells #[.int .u8 a0_0, .int .i64 a0_1, .int .i64 a0_2, .string a0_3] 43 (0, 0))) ∧ Aside0 (Below w.heap.size w w'))
  case atStart => exact ⟨(0), (by first | rfl | (simp; done) | (simp [*]; done)), H', ⟨Nat.le_refl _⟩, ⟨by (with_reducible repeat (first | refine blk_drewN ?_ _ | refine blk_drew ?_ | refine blk_alloc ?_ _)); exact BK480.out⟩, ⟨by repeat (first | (with_reducible first | exact HB.out | apply below_alloc | apply pw_below_drewN | apply below_drew1 | refine below_set ?_ GE480.out) | exact HB.out)⟩⟩
  case round =>
    clear H'
    try clear c1
    try clear p2
    try clear c3
    obtain ⟨x6_1, rfl, HA, HK1, BK480, HB⟩ := hrel
    cases gk with
    | zero => exact absurd HA.out (by simp [prompterref08_Make.l0])
    | succ k1 =>
      have H := HA.out
      clear HA
      simp only [prompterref08_Make.l0] at H
      by_cases c4 : x6_1 < (l1.length : Int)
      · rw [if_pos c4] at H
        have c4b0 : decide (x6_1 < (l1.length : Int)) = true := decide_eq_true c4
        clear c4
        by_cases c5 : 0 ≤ x6_1
        · rw [if_pos c5] at H
          have c5b0 : decide (0 ≤ x6_1) = true := decide_eq_true c5
          clear c5
          replace H := Option.bind_eq_some_iff.mp H
          obtain ⟨⟨t482, t483⟩, A60, H⟩ := H
          replace H : (if t483 = 0 then (prompterref08_Make.l0 k1 l1 (wrap64 (x6_1 + 1)) a0_0 a0_1 a0_2 a0_3) else (some (([] : List (S43)), t483))) = some (r1, r2) := H
          have A6 := Aside0.mk A60
          clear A60
          by_cases c7 : t483 = 0
          · rw [if_pos c7] at H
            have c7b0 : (t483 == 0) = true := beq_iff_eq.mpr c7
            have c7b1 : (t483 != 0) = false := bne_eq_false_iff_eq.mpr c7
            clear c7
            have H' := Aside0.mk H
            clear H
            have p481 : 0 ≤ (x6_1 : Int) := of_decide_eq_true (by first | (with_reducible assumption) | assumption)
            have q481 : x6_1 < (l1.length : Int) := of_decide_eq_true (by first | (with_reducible assumption) | assumption)
            obtain ⟨ad481, A481_0, c481_0, e481, hx481_0, hl481_0, hi481_0⟩ := at_L6 HR1.out x6_1 p481 q481
            cases e481
            replace hx481_0 := (HB.out.cell (World.block_lt_of_cell? w _ hx481_0)).trans hx481_0
            have HR481_0 := Aside0.mk hi481_0
            have HC481_0 := Aside0.mk hl481_0
            clear hi481_0 hl481_0
            replace p481 := eq_true p481
            replace q481 := eq_true q481
            go_wp2_with (first | ((with_reducible refine gate_callee (f := 48) rfl ?_); refine goesL_ (some 24) rfl rfl Try.func48 (by kernel_rfl) rfl #[.slice A481_0 (rd_L6 l1 x6_1).length c481_0] rfl (by (try simp only [List.map_toArray, List.map_cons, List.map_nil]); first | done | rfl | (simp only [List.length_drop, List.length_take]; rfl)) ?_; (with_reducible refine (prompterref08_Check.calls k1 _ _ (rd_L6 l1 x6_1) t482 t483 _ ?side1 ?side2 A6.out).mono ?_); (case side1 => repeat (first | exact (Kd.C_below HR481_0.out HB.out) | (with_reducible refine Kd.C_alloc ?_ _) | (with_reducible refine Kd.C_drewN ?_ _) | (with_reducible refine Kd.C_drew ?_))); (case side2 => exact HC481_0.out); rintro e w8 ⟨rfl, hb⟩; refine ⟨_, rfl, ?_⟩; have n0_ := Aside0.mk (blk_below (g := gb480) (o := .cells #[.int .u8 a0_0, .int .i64 a0_1, .int .i64 a0_2, .string a0_3] 43 (0, 0)) (by (with_reducible repeat (first | refine blk_drewN ?_ _ | refine blk_drew ?_ | refine blk_alloc ?_ _)); exact BK480.out) hb); have n1_ := Aside0.mk (below_step (by repeat (first | (with_reducible first | exact HB.out | apply below_alloc | apply pw_below_drewN | apply below_drew1 | refine below_set ?_ GE480.out) | exact HB.out)) hb); clear BK480; clear HB; have BK480 := n0_; have HB := n1_; clear n0_ n1_; (try clear hb); (try clear hb2); (try clear hk); (try clear hi)))
            go_roundg k1
            case measure => have := HK1.out; omega
            case rel => exact ⟨(wrap64 (x6_1 + 1)), (by first | rfl | (simp; done) | (simp [*]; done)), H', ⟨by have := HK1.out; omega⟩, ⟨by (with_reducible repeat (first | refine blk_drewN ?_ _ | refine blk_drew ?_ | refine blk_alloc ?_ _)); exact BK480.out⟩, ⟨by repeat (first | (with_reducible first | exact HB.out | apply below_alloc | apply pw_below_drewN | apply below_drew1 | refine below_set ?_ GE480.out) | exact HB.out)⟩⟩
          · rw [if_neg c7] at H
            have c7b0 : (t483 == 0) = false := beq_eq_false_iff_ne.mpr c7
            have c7b1 : (t483 != 0) = true := bne_iff_ne.mpr c7
            simp only [Option.some.injEq, Prod.mk.injEq] at H
            obtain ⟨rfl, rfl⟩ := H
            have p481 : 0 ≤ (x6_1 : Int) := of_decide_eq_true (by first | (with_reducible assumption) | assumption)
            have q481 : x6_1 < (l1.length : Int) := of_decide_eq_true (by first | (with_reducible assumption) | assumption)
            obtain ⟨ad481, A481_0, c481_0, e481, hx481_0, hl481_0, hi481_0⟩ := at_L6 HR1.out x6_1 p481 q481
            cases e481
            replace hx481_0 := (HB.out.cell (World.block_lt_of_cell? w _ hx481_0)).trans hx481_0
            have HR481_0 := Aside0.mk hi481_0
            have HC481_0 := Aside0.mk hl481_0
            clear hi481_0 hl481_0
            replace p481 := eq_true p481
            replace q481 := eq_true q481
            go_wp2_with (first | ((with_reducible refine gate_callee (f := 48) rfl ?_); refine goesL_ (some 24) rfl rfl Try.func48 (by kernel_rfl) rfl #[.slice A481_0 (rd_L6 l1 x6_1).length c481_0] rfl (by (try simp only [List.map_toArray, List.map_cons, List.map_nil]); first | done | rfl | (simp only [List.length_drop, List.length_take]; rfl)) ?_; (with_reducible refine (prompterref08_Check.calls k1 _ _ (rd_L6 l1 x6_1) t482 t483 _ ?side1 ?side2 A6.out).mono ?_); (case side1 => repeat (first | exact (Kd.C_below HR481_0.out HB.out) | (with_reducible refine Kd.C_alloc ?_ _) | (with_reducible refine Kd.C_drewN ?_ _) | (with_reducible refine Kd.C_drew ?_))); (case side2 => exact HC481_0.out); rintro e w9 ⟨rfl, hb⟩; refine ⟨_, rfl, ?_⟩; have n0_ := Aside0.mk (blk_below (g := gb480) (o := .cells #[.int .u8 a0_0, .int .i64 a0_1, .int .i64 a0_2, .string a0_3] 43 (0, 0)) (by (with_reducible repeat (first | refine blk_drewN ?_ _ | refine blk_drew ?_ | refine blk_alloc ?_ _)); exact BK480.out) hb); have n1_ := Aside0.mk (below_step (by repeat (first | (with_reducible first | exact HB.out | apply below_alloc | apply pw_below_drewN | apply below_drew1 | refine below_set ?_ GE480.out) | exact HB.out)) hb); clear BK480; clear HB; have BK480 := n0_; have HB := n1_; clear n0_ n1_; (try clear hb); (try clear hb2); (try clear hk); (try clear hi)))
            go_ret2
            exact ⟨_, by first | rfl | (simp [errW_none, errW_some] <;> rfl) | (simp [*, errW_none, errW_some] <;> rfl), by first | exact Kd.R_nil _ _ _ _ _ | exact Kd.N_nil _ _ _ _ _ | exact Kd.V_nil _ _ _ _ _ | exact Kd.Q_nil _ _ _ _ _ | exact Kd.S_nil _ _ _ _ _, by repeat (first | (with_reducible first | exact HB.out | apply below_alloc | apply pw_below_drewN | apply below_drew1 | refine below_set ?_ GE480.out) | exact HB.out)⟩
        · rw [if_neg c5] at H
          exact absurd H (by simp)
      · rw [if_neg c4] at H
        have c4b0 : decide (x6_1 < (l1.length : Int)) = false := decide_eq_false c4
        clear c4
        by_cases c10 : (l1.length : Int) > 2048
        · rw [if_pos c10] at H
          have c10b0 : decide (2048 < (l1.length : Int)) = true := decide_eq_true c10
          have c10b1 : decide (2048 < l1.length) = true := decide_eq_true (by omega)
          clear c10
          simp only [Option.some.injEq, Prod.mk.injEq] at H
          obtain ⟨rfl, rfl⟩ := H
          go_wp2
          go_ret2
          exact ⟨_, by first | rfl | (simp [errW_none, errW_some] <;> rfl) | (simp [*, errW_none, errW_some] <;> rfl), by first | exact Kd.R_nil _ _ _ _ _ | exact Kd.N_nil _ _ _ _ _ | exact Kd.V_nil _ _ _ _ _ | exact Kd.Q_nil _ _ _ _ _ | exact Kd.S_nil _ _ _ _ _, by repeat (first | (with_reducible first | exact HB.out | apply below_alloc | apply pw_below_drewN | apply below_drew1 | refine below_set ?_ GE480.out) | exact HB.out)⟩
        · rw [if_neg c10] at H
          have c10b0 : decide (2048 < (l1.length : Int)) = false := decide_eq_false c10
          have c10b1 : decide (2048 < l1.length) = false := decide_eq_false (by omega)
          clear c10
          obtain ⟨y484, hy484⟩ : ∃ y_ : List (S43), y_ = (([(⟨a0_0, (l1.length : Int), a0_2, a0_3⟩ : S43)] : List (S43))) := ⟨_, rfl⟩
          replace H : (prompterref08_Make.l1 k1 l1 y484 0) = some (r1, r2) := by first | (rw [hy484]; with_reducible exact H) | (have H2_ := (Option.bind_some _ _).symm.trans H; rw [hy484]; with_reducible exact H2_) | (have H2_ := (Option.bind_some _ _).symm.trans H; with_reducible exact H2_) | with_reducible exact H | (rw [hy484]; exact H) | exact H
          have Ny484 := Aside0.mk hy484
          clear hy484
          have H' := Aside0.mk H
          clear H
          have hcz11_0 : wr.cell? ⟨gb480, 0, none⟩ = some (.int .u8 a0_0) := (blk_cell BK480.out 0).trans rfl
          have hcz11_1 : wr.cell? ⟨gb480, 1, none⟩ = some (.int .i64 a0_1) := (blk_cell BK480.out 1).trans rfl
          have hcz11_2 : wr.cell? ⟨gb480, 2, none⟩ = some (.int .i64 a0_2) := (blk_cell BK480.out 2).trans rfl
          have hcz11_3 : wr.cell? ⟨gb480, 3, none⟩ = some (.string a0_3) := (blk_cell BK480.out 3).trans rfl
          have hfz11_0 := blk_frozen BK480.out 0
          have hfz11_1 := blk_frozen BK480.out 1
          have hfz11_2 := blk_frozen BK480.out 2
          have hfz11_3 := blk_frozen BK480.out 3
          go_wp2_with (first | ((with_reducible refine gate_dst (N := 37) rfl ?_); refine Kd.R_lit k43 _ 43 ?hg (N := 37) ?hd (xs := ([(⟨a0_0, (l1.length : Int), a0_2, a0_3⟩ : S43)] : List (S43))) (inner := [.int .u8 a0_0, .int .i64 (l1.length : Int), .int .i64 a0_2, .string a0_3]) (ok := fun _ => True) (okp := fun _ => True) ?hr ?hp (fun _ hk => hk) trivial (Below.refl _ _) (Nat.le_refl _) (by simp) ?_; (case hd => rfl); (case hg => rfl); (case hr => first | (go_simp; done) | (go_simp; rfl)); (case hp => exact (Reps.c4 (show Kd.M k43 _ _ _ (⟨a0_0, (l1.length : Int), a0_2, a0_3⟩ : S43) [.int .u8 a0_0, .int .i64 (l1.length : Int), .int .i64 a0_2, .string a0_3] from (k43_mkM _ _ _ (⟨a0_0, (l1.length : Int), a0_2, a0_3⟩ : S43) )) (Reps.none _ _))); intro v485 w12 ho13 hb hg_ hnew_; clear hg_ hnew_; (first | rw [← Ny484.out] at ho13 | (simp only [Int.reduceToNat] at ho13; rw [← Ny484.out] at ho13)); have n0_ := Aside0.mk (Kd.R_lower (Kd.R_newB ho13 (g := gb480) (o := .cells #[.int .u8 a0_0, .int .i64 (l1.length : Int), .int .i64 a0_2, .string a0_3] 43 (0, 0)) (by (with_reducible repeat (first | refine blk_drewN ?_ _ | refine blk_drew ?_ | refine blk_alloc ?_ _)); refine blk_put (cs := #[.int .u8 a0_0, .int .i64 a0_1, .int .i64 a0_2, .string a0_3]) ?_ 1 _ rfl; (with_reducible repeat (first | refine blk_drewN ?_ _ | refine blk_drew ?_ | refine blk_alloc ?_ _)); exact BK480.out)) (below_size (by repeat (first | (with_reducible first | exact HB.out | apply below_alloc | apply pw_below_drewN | apply below_drew1 | refine below_set ?_ GE480.out) | exact HB.out)))); have n1_ := Aside0.mk (blk_below (g := gb480) (o := .cells #[.int .u8 a0_0, .int .i64 (l1.length : Int), .int .i64 a0_2, .string a0_3] 43 (0, 0)) (by (with_reducible repeat (first | refine blk_drewN ?_ _ | refine blk_drew ?_ | refine blk_alloc ?_ _)); refine blk_put (cs := #[.int .u8 a0_0, .int .i64 a0_1, .int .i64 a0_2, .string a0_3]) ?_ 1 _ rfl; (with_reducible repeat (first | refine blk_drewN ?_ _ | refine blk_drew ?_ | refine blk_alloc ?_ _)); exact BK480.out) hb); have n2_ := Aside0.mk (below_step (by repeat (first | (with_reducible first | exact HB.out | apply below_alloc | apply pw_below_drewN | apply below_drew1 | refine below_set ?_ GE480.out) | exact HB.out)) hb); clear BK480; clear HB; have HO486 := n0_; have BK480 := n1_; have HB := n2_; clear n0_ n1_ n2_; clear hb ho13))
          go_loopg [9, 10] k1 (fun kq v9 v10 w' => ∃ (x9_2 : List (S43)) (x10_2 : Int), v10 = .int .i64 x10_2 ∧ Aside0 (prompterref08_Make.l1 kq l1 x9_2 x10_2 = some (r1, r2)) ∧ Aside0 (kq ≤ k1) ∧ Aside0 (Kd.R k43 43 w' w.heap.size (fun k_ => k_ ≠ gb480) v9 x9_2) ∧ Aside0 (w'.heap[gb480]? = some (.cells #[.int .u8 a0_0, .int .i64 (l1.length : Int), .int .i64 a0_2, .string a0_3] 43 (0, 0))) ∧ Aside0 (Below w.heap.size w w'))
          case atStart => exact ⟨(y484), (0), (by first | rfl | (simp; done) | (simp [*]; done)), H', ⟨Nat.le_refl _⟩, ⟨by (with_reducible repeat (first | apply Kd.R_alloc | apply Kd.R_drewN | apply Kd.R_drew)); exact Kd.R_mono HO486.out (fun _ hk => hk.2)⟩, ⟨by (with_reducible repeat (first | refine blk_drewN ?_ _ | refine blk_drew ?_ | refine blk_alloc ?_ _)); exact BK480.out⟩, ⟨by repeat (first | (with_reducible first | exact HB.out | apply below_alloc | apply pw_below_drewN | apply below_drew1 | refine below_set ?_ GE480.out) | exact HB.out)⟩⟩
          case round =>
            clear H'
            try clear c1
            try clear p2
            try clear c3
            try clear c4
            try clear c4b0
            try clear p4
            try clear q4
            try clear hx4
            try clear c5
            try clear c5b0
            try clear p6
            try clear c7
            try clear c7b0
            try clear c7b1
            try clear c10
            try clear c10b0
            try clear c10b1
            try clear hcz11_0
            try clear hcz11_1
            try clear hcz11_2
            try clear hcz11_3
            try clear hfz11_0
            try clear hfz11_1
            try clear hfz11_2
            try clear hfz11_3
            try clear hx481_0
            try clear p2
            try clear p481
            try clear q481
            obtain ⟨x9_2, x10_2, rfl, HA, HK2, HO_9, BK480, HB⟩ := hrel
            cases gk with
            | zero => exact absurd HA.out (by simp [prompterref08_Make.l1])
            | succ k2 =>
              have H := HA.out
              clear HA
              simp only [prompterref08_Make.l1] at H
              by_cases c14 : x10_2 < (l1.length : Int)
              · rw [if_pos c14] at H
                have c14b0 : decide (x10_2 < (l1.length : Int)) = true := decide_eq_true c14
                clear c14
                by_cases c15 : 0 ≤ x10_2
                · rw [if_pos c15] at H
                  have c15b0 : decide (0 ≤ x10_2) = true := decide_eq_true c15
                  clear c15
                  by_cases c16 : x9_2.length + (rd_L6 l1 x10_2).length < 3518437208883
                  · rw [if_pos c16] at H
                    have LMc16 := Aside0.mk c16
                    clear c16
                    obtain ⟨y488, hy488⟩ : ∃ y_ : List (S43), y_ = (x9_2 ++ (rd_L6 l1 x10_2)) := ⟨_, rfl⟩
                    replace H : (if (y488.length : Int) > 2048 then (some (([] : List (S43)), 2)) else (prompterref08_Make.l1 k2 l1 y488 (wrap64 (x10_2 + 1)))) = some (r1, r2) := by first | (rw [hy488]; with_reducible exact H) | (have H2_ := (Option.bind_some _ _).symm.trans H; rw [hy488]; with_reducible exact H2_) | (have H2_ := (Option.bind_some _ _).symm.trans H; with_reducible exact H2_) | with_reducible exact H | (rw [hy488]; exact H) | exact H
                    have Ny488 := Aside0.mk hy488
                    clear hy488
                    by_cases c17 : (y488.length : Int) > 2048
                    · rw [if_pos c17] at H
                      have c17b0 : decide (2048 < (y488.length : Int)) = true := decide_eq_true c17
                      have c17b1 : decide (2048 < y488.length) = true := decide_eq_true (by omega)
                      clear c17
                      simp only [Option.some.injEq, Prod.mk.injEq] at H
                      obtain ⟨rfl, rfl⟩ := H
                      have p487 : 0 ≤ (x10_2 : Int) := of_decide_eq_true (by first | (with_reducible assumption) | assumption)
                      have q487 : x10_2 < (l1.length : Int) := of_decide_eq_true (by first | (with_reducible assumption) | assumption)
                      obtain ⟨ad487, A487_0, c487_0, e487, hx487_0, hl487_0, hi487_0⟩ := at_L6 HR1.out x10_2 p487 q487
                      cases e487
                      replace hx487_0 := (HB.out.cell (World.block_lt_of_cell? w _ hx487_0)).trans hx487_0
                      have HR487_0 := Aside0.mk hi487_0
                      have HC487_0 := Aside0.mk hl487_0
                      clear hi487_0 hl487_0
                      replace p487 := eq_true p487
                      replace q487 := eq_true q487
                      go_wp2_with (first | ((with_reducible refine gate_builtin (b := .append) (xs := #[.tmp 44, .tmp 48]) rfl ?_); at_builtin; refine Kd.R_append_rows k43 (w0 := w) w.heap.size rfl (.tmp 44) (.tmp 48) 36 43 (.agg #[(.int .u8 0), (.int .i64 0), (.int .i64 0), (.string ⟨#[]⟩)]) 40 rfl Try.underlying36 info43 rfl (by decide) (by omega) u9 x9_2 (rd_L6 l1 x10_2) _ _ _ (fun k_ => k_ ≠ gb480) (fun _ => False) rfl rfl ?aO ?aR (fun _ _ h => h) (fun _ h => h.elim) ?aF ?aB ?aS ?aL ?_; (case aR => repeat (first | exact (Kd.C_below HR487_0.out HB.out) | (with_reducible refine Kd.C_alloc ?_ _) | (with_reducible refine Kd.C_drewN ?_ _) | (with_reducible refine Kd.C_drew ?_))); (case aB => exact (by repeat (first | (with_reducible first | exact HB.out | apply below_alloc | apply pw_below_drewN | apply below_drew1 | refine below_set ?_ GE480.out) | exact HB.out))); (case aF => exact (fun k_ hk => Kd.freshB (g := gb480) (o := .cells #[.int .u8 a0_0, .int .i64 (l1.length : Int), .int .i64 a0_2, .string a0_3] 43 (0, 0)) (by (with_reducible repeat (first | refine blk_drewN ?_ _ | refine blk_drew ?_ | refine blk_alloc ?_ _)); exact BK480.out) k_ hk)); (case aO => exact (by (with_reducible repeat (first | apply Kd.R_alloc | apply Kd.R_drewN | apply Kd.R_drew)); exact HO_9.out)); (case aS => exact (below_size (by repeat (first | (with_reducible first | exact HB.out | apply below_alloc | apply pw_below_drewN | apply below_drew1 | refine below_set ?_ GE480.out) | exact HB.out)))); (case aL => have := LMc16.out; omega); intro v489 w18 ho hb hg hat; rw [← Ny488.out] at ho; have n0_ := Aside0.mk (blk_grown (g := gb480) (o := .cells #[.int .u8 a0_0, .int .i64 (l1.length : Int), .int .i64 a0_2, .string a0_3] 43 (0, 0)) (by (with_reducible repeat (first | refine blk_drewN ?_ _ | refine blk_drew ?_ | refine blk_alloc ?_ _)); exact BK480.out) hg (Kd.R_away HO_9.out (fun _ hk => hk))); have n1_ := Aside0.mk (hb); have n2_ := Aside0.mk (ho); clear BK480; clear HB; clear HO_9; have BK480 := n0_; have HB := n1_; have HO490 := n2_; clear n0_ n1_ n2_; clear ho hb hg hat; obtain ⟨Ao19, co19, eo19⟩ := Kd.R_slice HO490.out; subst eo19))
                      go_ret2
                      exact ⟨_, by first | rfl | (simp [errW_none, errW_some] <;> rfl) | (simp [*, errW_none, errW_some] <;> rfl), by first | exact Kd.R_nil _ _ _ _ _ | exact Kd.N_nil _ _ _ _ _ | exact Kd.V_nil _ _ _ _ _ | exact Kd.Q_nil _ _ _ _ _ | exact Kd.S_nil _ _ _ _ _, by repeat (first | (with_reducible first | exact HB.out | apply below_alloc | apply pw_below_drewN | apply below_drew1 | refine below_set ?_ GE480.out) | exact HB.out)⟩
                    · rw [if_neg c17] at H
                      have c17b0 : decide (2048 < (y488.length : Int)) = false := decide_eq_false c17
                      have c17b1 : decide (2048 < y488.length) = false := decide_eq_false (by omega)
                      clear c17
                      have H' := Aside0.mk H
                      clear H
                      have p487 : 0 ≤ (x10_2 : Int) := of_decide_eq_true (by first | (with_reducible assumption) | assumption)
                      have q487 : x10_2 < (l1.length : Int) := of_decide_eq_true (by first | (with_reducible assumption) | assumption)
                      obtain ⟨ad487, A487_0, c487_0, e487, hx487_0, hl487_0, hi487_0⟩ := at_L6 HR1.out x10_2 p487 q487
                      cases e487
                      replace hx487_0 := (HB.out.cell (World.block_lt_of_cell? w _ hx487_0)).trans hx487_0
                      have HR487_0 := Aside0.mk hi487_0
                      have HC487_0 := Aside0.mk hl487_0
                      clear hi487_0 hl487_0
                      replace p487 := eq_true p487
                      replace q487 := eq_true q487
                      go_wp2_with (first | ((with_reducible refine gate_builtin (b := .append) (xs := #[.tmp 44, .tmp 48]) rfl ?_); at_builtin; refine Kd.R_append_rows k43 (w0 := w) w.heap.size rfl (.tmp 44) (.tmp 48) 36 43 (.agg #[(.int .u8 0), (.int .i64 0), (.int .i64 0), (.string ⟨#[]⟩)]) 40 rfl Try.underlying36 info43 rfl (by decide) (by omega) u9 x9_2 (rd_L6 l1 x10_2) _ _ _ (fun k_ => k_ ≠ gb480) (fun _ => False) rfl rfl ?aO ?aR (fun _ _ h => h) (fun _ h => h.elim) ?aF ?aB ?aS ?aL ?_; (case aR => repeat (first | exact (Kd.C_below HR487_0.out HB.out) | (with_reducible refine Kd.C_alloc ?_ _) | (with_reducible refine Kd.C_drewN ?_ _) | (with_reducible refine Kd.C_drew ?_))); (case aB => exact (by repeat (first | (with_reducible first | exact HB.out | apply below_alloc | apply pw_below_drewN | apply below_drew1 | refine below_set ?_ GE480.out) | exact HB.out))); (case aF => exact (fun k_ hk => Kd.freshB (g := gb480) (o := .cells #[.int .u8 a0_0, .int .i64 (l1.length : Int), .int .i64 a0_2, .string a0_3] 43 (0, 0)) (by (with_reducible repeat (first | refine blk_drewN ?_ _ | refine blk_drew ?_ | refine blk_alloc ?_ _)); exact BK480.out) k_ hk)); (case aO => exact (by (with_reducible repeat (first | apply Kd.R_alloc | apply Kd.R_drewN | apply Kd.R_drew)); exact HO_9.out)); (case aS => exact (below_size (by repeat (first | (with_reducible first | exact HB.out | apply below_alloc | apply pw_below_drewN | apply below_drew1 | refine below_set ?_ GE480.out) | exact HB.out)))); (case aL => have := LMc16.out; omega); intro v489 w20 ho hb hg hat; rw [← Ny488.out] at ho; have n0_ := Aside0.mk (blk_grown (g := gb480) (o := .cells #[.int .u8 a0_0, .int .i64 (l1.length : Int), .int .i64 a0_2, .string a0_3] 43 (0, 0)) (by (with_reducible repeat (first | refine blk_drewN ?_ _ | refine blk_drew ?_ | refine blk_alloc ?_ _)); exact BK480.out) hg (Kd.R_away HO_9.out (fun _ hk => hk))); have n1_ := Aside0.mk (hb); have n2_ := Aside0.mk (ho); clear BK480; clear HB; clear HO_9; have BK480 := n0_; have HB := n1_; have HO490 := n2_; clear n0_ n1_ n2_; clear ho hb hg hat; obtain ⟨Ao21, co21, eo21⟩ := Kd.R_slice HO490.out; subst eo21))
                      go_roundg k2
                      case measure => have := HK1.out; have := HK2.out; omega
                      case rel => exact ⟨(y488), (wrap64 (x10_2 + 1)), (by first | rfl | (simp; done) | (simp [*]; done)), H', ⟨by have := HK1.out; have := HK2.out; omega⟩, ⟨by (with_reducible repeat (first | apply Kd.R_alloc | apply Kd.R_drewN | apply Kd.R_drew)); exact HO490.out⟩, ⟨by (with_reducible repeat (first | refine blk_drewN ?_ _ | refine blk_drew ?_ | refine blk_alloc ?_ _)); exact BK480.out⟩, ⟨by repeat (first | (with_reducible first | exact HB.out | apply below_alloc | apply pw_below_drewN | apply below_drew1 | refine below_set ?_ GE480.out) | exact HB.out)⟩⟩
                  · rw [if_neg c16] at H
                    exact absurd H (by simp)
                · rw [if_neg c15] at H
                  exact absurd H (by simp)
              · rw [if_neg c14] at H
                have c14b0 : decide (x10_2 < (l1.length : Int)) = false := decide_eq_false c14
                clear c14
                replace H := Option.bind_eq_some_iff.mp H
                obtain ⟨⟨t491, t492⟩, A220, H⟩ := H
                replace H : (if t492 = 0 then (some (x9_2, 0)) else (some (([] : List (S43)), t492))) = some (r1, r2) := H
                have A22 := Aside0.mk A220
                clear A220
                by_cases c23 : t492 = 0
                · rw [if_pos c23] at H
                  have c23b0 : (t492 == 0) = true := beq_iff_eq.mpr c23
                  have c23b1 : (t492 != 0) = false := bne_eq_false_iff_eq.mpr c23
                  clear c23
                  simp only [Option.some.injEq, Prod.mk.injEq] at H
                  obtain ⟨rfl, rfl⟩ := H
                  obtain ⟨Ao24, co24, eo24⟩ := Kd.R_slice HO_9.out
                  subst eo24
                  go_wp2_with (first | ((with_reducible refine gate_callee (f := 48) rfl ?_); refine goesL_ (some 55) rfl rfl Try.func48 (by kernel_rfl) rfl #[.slice Ao24 x9_2.length co24] rfl (by (try simp only [List.map_toArray, List.map_cons, List.map_nil]); first | done | rfl | (simp only [List.length_drop, List.length_take]; rfl)) ?_; (with_reducible refine (prompterref08_Check.calls k2 _ _ x9_2 t491 t492 _ ?side1 ?side2 A22.out).mono ?_); (case side1 => repeat (first | exact (Kd.R_reads' HO_9.out).2.2 | (with_reducible refine Kd.C_alloc ?_ _) | (with_reducible refine Kd.C_drewN ?_ _) | (with_reducible refine Kd.C_drew ?_))); (case side2 => exact (Kd.R_reads' HO_9.out).2.1); rintro e w25 ⟨rfl, hb⟩; refine ⟨_, rfl, ?_⟩; have n0_ := Aside0.mk (Kd.R_below (by (with_reducible repeat (first | apply Kd.R_alloc | apply Kd.R_drewN | apply Kd.R_drew)); exact HO_9.out) hb); have n1_ := Aside0.mk (blk_below (g := gb480) (o := .cells #[.int .u8 a0_0, .int .i64 (l1.length : Int), .int .i64 a0_2, .string a0_3] 43 (0, 0)) (by (with_reducible repeat (first | refine blk_drewN ?_ _ | refine blk_drew ?_ | refine blk_alloc ?_ _)); exact BK480.out) hb); have n2_ := Aside0.mk (below_step (by repeat (first | (with_reducible first | exact HB.out | apply below_alloc | apply pw_below_drewN | apply below_drew1 | refine below_set ?_ GE480.out) | exact HB.out)) hb); clear HO_9; clear BK480; clear HB; have HO_9 := n0_; have BK480 := n1_; have HB := n2_; clear n0_ n1_ n2_; (try clear hb); (try clear hb2); (try clear hk); (try clear hi)))
                  go_ret2
                  exact ⟨_, by first | rfl | (simp [errW_none, errW_some] <;> rfl) | (simp [*, errW_none, errW_some] <;> rfl), by (with_reducible repeat (first | apply Kd.R_alloc | apply Kd.R_drewN | apply Kd.R_drew)); exact Kd.R_mono HO_9.out (fun _ hk => trivial), by repeat (first | (with_reducible first | exact HB.out | apply below_alloc | apply pw_below_drewN | apply below_drew1 | refine below_set ?_ GE480.out) | exact HB.out)⟩
                · rw [if_neg c23] at H
                  have c23b0 : (t492 == 0) = false := beq_eq_false_iff_ne.mpr c23
                  have c23b1 : (t492 != 0) = true := bne_iff_ne.mpr c23
                  simp only [Option.some.injEq, Prod.mk.injEq] at H
                  obtain ⟨rfl, rfl⟩ := H
                  obtain ⟨Ao26, co26, eo26⟩ := Kd.R_slice HO_9.out
                  subst eo26
                  go_wp2_with (first | ((with_reducible refine gate_callee (f := 48) rfl ?_); refine goesL_ (some 55) rfl rfl Try.func48 (by kernel_rfl) rfl #[.slice Ao26 x9_2.length co26] rfl (by (try simp only [List.map_toArray, List.map_cons, List.map_nil]); first | done | rfl | (simp only [List.length_drop, List.length_take]; rfl)) ?_; (with_reducible refine (prompterref08_Check.calls k2 _ _ x9_2 t491 t492 _ ?side1 ?side2 A22.out).mono ?_); (case side1 => repeat (first | exact (Kd.R_reads' HO_9.out).2.2 | (with_reducible refine Kd.C_alloc ?_ _) | (with_reducible refine Kd.C_drewN ?_ _) | (with_reducible refine Kd.C_drew ?_))); (case side2 => exact (Kd.R_reads' HO_9.out).2.1); rintro e w27 ⟨rfl, hb⟩; refine ⟨_, rfl, ?_⟩; have n0_ := Aside0.mk (Kd.R_below (by (with_reducible repeat (first | apply Kd.R_alloc | apply Kd.R_drewN | apply Kd.R_drew)); exact HO_9.out) hb); have n1_ := Aside0.mk (blk_below (g := gb480) (o := .cells #[.int .u8 a0_0, .int .i64 (l1.length : Int), .int .i64 a0_2, .string a0_3] 43 (0, 0)) (by (with_reducible repeat (first | refine blk_drewN ?_ _ | refine blk_drew ?_ | refine blk_alloc ?_ _)); exact BK480.out) hb); have n2_ := Aside0.mk (below_step (by repeat (first | (with_reducible first | exact HB.out | apply below_alloc | apply pw_below_drewN | apply below_drew1 | refine below_set ?_ GE480.out) | exact HB.out)) hb); clear HO_9; clear BK480; clear HB; have HO_9 := n0_; have BK480 := n1_; have HB := n2_; clear n0_ n1_ n2_; (try clear hb); (try clear hb2); (try clear hk); (try clear hi)))
                  go_ret2
                  exact ⟨_, by first | rfl | (simp [errW_none, errW_some] <;> rfl) | (simp [*, errW_none, errW_some] <;> rfl), by first | exact Kd.R_nil _ _ _ _ _ | exact Kd.N_nil _ _ _ _ _ | exact Kd.V_nil _ _ _ _ _ | exact Kd.Q_nil _ _ _ _ _ | exact Kd.S_nil _ _ _ _ _, by repeat (first | (with_reducible first | exact HB.out | apply below_alloc | apply pw_below_drewN | apply below_drew1 | refine below_set ?_ GE480.out) | exact HB.out)⟩
end Go.Proofs.Ytlbchdalimngjaa.P
namespace Go.Proofs.Ytlbchdalimngjaa.P
open Go.RowKit Go.Proofs.YtlbchdalimngjaaW.PrintWords Go.Proofs.YtlbchdalimngjaaW.PrintLast Go.Proofs.YtlbchdalimngjaaW.PrintMore
open Go.Instr
set_option linter.unusedVariables false
set_option linter.unusedSimpArgs false
def setObj_ (w : World) (b : Nat) (o : Obj) : World := { w with heap := w.heap.setIfInBounds b o }
theorem setObj_same {w : World} {b : Nat} {o o' : Obj} (h : w.heap[b]? = some o') : (setObj_ w b o).heap[b]? = some o := by
  have hlt := (Array.getElem?_eq_some_iff.1 h).1
  simp [setObj_, hlt]
theorem setObj_grown {w : World} {b : Nat} {o : Obj} : w.grownBy (setObj_ w b o) (some b) :=
  ⟨rfl, rfl, rfl, by simp [setObj_], fun i _ hi => by
    have : b ≠ i := fun e => hi (by rw [e])
    simp [setObj_, Array.getElem?_setIfInBounds, this]⟩
section
variable {P : Program} {w : World} {t k e : TypeId} {b clock : Nat} {es : Array MapEntry} {n : Int}
theorem run_checkKey_u8 (hk : P.underlying k = some (.int .u8)) (c : Bool) (m : Nat) : (checkKey c (m + 1) k (.int .u8 n)).run P w = .ok () w := by
  simp [checkKey, run_underlying hk]
theorem run_findKey_u8 (hk : P.underlying k = some (.int .u8)) {l : List MapEntry} {r : Option (Nat × Value)} (hf : findNow (.int .u8) (.int .u8 n) l 0 = some r) : (findKey k (.int .u8 n) l).run P w = .ok r w := by
  simp [findKey, run_underlying hk, hf]
theorem run_mapUpdate_new (ht : P.underlying t = some (.map k e)) (hk : P.underlying k = some (.int .u8)) (hb : w.heap[b]? = some (.map es clock)) (v : Value)
    (hf : findNow (.int .u8) (.int .u8 n) es.toList 0 = some none) :
    (mapUpdate t (.map (some b)) (.int .u8 n) v).run P w = .ok () (setObj_ w b (.map (es.push ⟨.int .u8 n, v, clock⟩) (clock + 1))) := by
  have h1 := run_checkKey_u8 (P := P) (w := w) (n := n) hk false 9999
  have h2 := run_findKey_u8 (P := P) (w := w) hk hf
  simp [mapUpdate, run_underlying ht, getObj, setObj, hb, h1, h2, setObj_, Sem.run]
theorem run_lookup_has (ht : P.underlying t = some (.map k e)) (hk : P.underlying k = some (.int .u8)) (hb : w.heap[b]? = some (.map es clock)) {i : Nat} {v : Value}
    (hf : findNow (.int .u8) (.int .u8 n) es.toList 0 = some (some (i, v))) : (lookup t (.map (some b)) (.int .u8 n) true).run P w = .ok (.tuple #[v, .bool true]) w := by
  have h1 := fun c => run_checkKey_u8 (P := P) (w := w) (n := n) hk c 9999
  have h2 := run_findKey_u8 (P := P) (w := w) hk hf
  simp [lookup, run_underlying ht, getObj, hb, h1, h2, Sem.run]
theorem run_lookup_not (ht : P.underlying t = some (.map k e)) (hk : P.underlying k = some (.int .u8)) (hb : w.heap[b]? = some (.map es clock)) {z : Value} (hz : (zeroValue e).run P w = .ok z w)
    (hf : findNow (.int .u8) (.int .u8 n) es.toList 0 = some none) : (lookup t (.map (some b)) (.int .u8 n) true).run P w = .ok (.tuple #[z, .bool false]) w := by
  have h1 := fun c => run_checkKey_u8 (P := P) (w := w) (n := n) hk c 9999
  have h2 := run_findKey_u8 (P := P) (w := w) hk hf
  simp [lookup, run_underlying ht, getObj, hb, h1, h2, hz, Sem.run]
end
section
variable {P : Program} {ops : Array Oper} {rest : List Oper} {o : Oper} {a : Act} {Q : Exit → Act → World → Prop} {w : World} {t k e : TypeId} {b clock : Nat} {es : Array MapEntry} {n : Int}
theorem map_put (hg : o.guard = none) (m x v : Operand) (hop : o.op = .mapUpdate t m x v ∨ o.op = .insert t m x v) (ht : P.underlying t = some (.map k e)) (hk : P.underlying k = some (.int .u8))
    (hm : a.eval m = .map (some b)) (hx : a.eval x = .int .u8 n) (val : Value) (hv : a.eval v = val) (hb : w.heap[b]? = some (.map es clock)) (hf : findNow (.int .u8) (.int .u8 n) es.toList 0 = some none)
    (h : ∀ w1, w1.heap[b]? = some (.map (es.push ⟨.int .u8 n, val, clock⟩) (clock + 1)) → w.grownBy w1 (some b) → wpList P ops Q rest (a.put o.dst undef) w1) : wpList P ops Q (o :: rest) a w := by
  refine wpList_plain hg fun K hK => ?_
  have hrun := run_mapUpdate_new (P := P) (w := w) ht hk hb val hf
  unfold Oper.wp
  rcases hop with hop | hop <;> simp [execOp, hop, hm, hx, hv, hrun, Result.andThen] <;> exact hK _ _ (h _ (setObj_same hb) setObj_grown)
theorem map_has (hg : o.guard = none) (m x : Operand) (hop : o.op = .lookup t m x true) (ht : P.underlying t = some (.map k e)) (hk : P.underlying k = some (.int .u8))
    (hm : a.eval m = .map (some b)) (hx : a.eval x = .int .u8 n) (hb : w.heap[b]? = some (.map es clock)) (i : Nat) (v : Value) (hf : findNow (.int .u8) (.int .u8 n) es.toList 0 = some (some (i, v)))
    (h : wpList P ops Q rest (a.put o.dst (.tuple #[v, .bool true])) w) : wpList P ops Q (o :: rest) a w := by
  refine wpList_plain hg fun K hK => ?_
  have hrun := run_lookup_has (P := P) (w := w) ht hk hb hf
  unfold Oper.wp
  simp [execOp, hop, hm, hx, hrun, Result.andThen]
  exact hK _ _ h
theorem map_not (hg : o.guard = none) (m x : Operand) (hop : o.op = .lookup t m x true) (ht : P.underlying t = some (.map k e)) (hk : P.underlying k = some (.int .u8))
    (hm : a.eval m = .map (some b)) (hx : a.eval x = .int .u8 n) (hb : w.heap[b]? = some (.map es clock)) (z : Value) (hz : (zeroValue e).run P w = .ok z w) (hf : findNow (.int .u8) (.int .u8 n) es.toList 0 = some none)
    (h : wpList P ops Q rest (a.put o.dst (.tuple #[z, .bool false])) w) : wpList P ops Q (o :: rest) a w := by
  refine wpList_plain hg fun K hK => ?_
  have hrun := run_lookup_not (P := P) (w := w) ht hk hb hz hf
  unfold Oper.wp
  simp [execOp, hop, hm, hx, hrun, Result.andThen]
  exact hK _ _ h
end
end Go.Proofs.Ytlbchdalimngjaa.P
namespace Go.Proofs.Ytlbchdalimngjaa.P
open Go.RowKit Go.Proofs.YtlbchdalimngjaaW.PrintWords Go.Proofs.YtlbchdalimngjaaW.PrintLast Go.Proofs.YtlbchdalimngjaaW.PrintMore
open Go.Instr
attribute [local go_sem] max2_int min2_int max_two min_two max_three min_three max_four min_four
set_option linter.unusedVariables false
set_option linter.unusedSimpArgs false
structure Form where
  tx : Nat
  le : Int
  mo : Int
  pt : Nat
def Form.cells (f : Form) : Array Value := #[.func (.func f.tx) #[] #[], .int .i64 f.le, .int .i64 f.mo, .func (.func f.pt) #[] #[]]
def formBase : List (Int × Form) := [(1, ⟨69, 1, 2048, 70⟩), (2, ⟨69, 0, 0, 71⟩), (3, ⟨72, 0, 2048, 73⟩), (6, ⟨72, 2, 3, 74⟩), (7, ⟨72, 2, 2, 74⟩), (24, ⟨75, 0, 0, 71⟩), (25, ⟨72, 0, 2048, 76⟩), (53, ⟨72, 1, 1, 77⟩), (23, ⟨72, 0, 0, 71⟩)]
def formMore : List (Int × Form) := [(4, ⟨69, 1, 1, 76⟩), (5, ⟨69, 1, 1, 76⟩), (8, ⟨72, 1, 1, 76⟩), (9, ⟨72, 1, 1, 76⟩), (10, ⟨72, 1, 1, 76⟩), (11, ⟨72, 1, 1, 76⟩), (20, ⟨72, 0, 0, 71⟩), (21, ⟨72, 0, 0, 71⟩), (22, ⟨72, 0, 0, 71⟩), (26, ⟨69, 0, 0, 71⟩), (30, ⟨72, 2, 2, 76⟩), (31, ⟨72, 2, 2, 76⟩), (32, ⟨72, 2, 2, 76⟩), (33, ⟨72, 2, 2, 76⟩), (34, ⟨72, 2, 2, 76⟩), (35, ⟨72, 2, 2, 76⟩), (36, ⟨72, 2, 2, 76⟩), (37, ⟨72, 2, 2, 76⟩), (38, ⟨72, 2, 2, 76⟩), (39, ⟨72, 2, 2, 76⟩), (40, ⟨72, 2, 2, 76⟩), (41, ⟨72, 2, 2, 76⟩), (42, ⟨72, 2, 2, 76⟩), (43, ⟨72, 1, 1, 76⟩), (44, ⟨72, 1, 1, 76⟩), (45, ⟨72, 1, 1, 76⟩), (46, ⟨72, 1, 1, 76⟩), (47, ⟨72, 1, 1, 76⟩), (48, ⟨72, 1, 1, 76⟩), (50, ⟨69, 0, 2048, 76⟩), (51, ⟨69, 0, 2048, 76⟩), (52, ⟨72, 1, 1, 76⟩), (54, ⟨72, 1, 1, 76⟩), (55, ⟨72, 1, 1, 76⟩), (56, ⟨69, 0, 0, 71⟩), (57, ⟨72, 0, 0, 71⟩)]
def formTab (n : Int) : List (Int × Form) := formBase ++ formMore.filter (fun p => p.1 < n)
def formEnt : Nat → List (Int × Form) → List MapEntry
  | _, [] => []
  | i, p :: l => ⟨.int .u8 p.1, .agg p.2.cells, i⟩ :: formEnt (i + 1) l
def formMap (n : Int) : Obj := .map (formEnt 0 (formTab n)).toArray (formTab n).length
section
variable {P : Program} {ops : Array Oper} {rest : List Oper} {o : Oper} {a : Act} {Q : Exit → Act → World → Prop} {W : World}
theorem gate_insert {t : TypeId} {m k v : Operand} (_h : o.op = .insert t m k v) (h : wpList P ops Q (o :: rest) a W) : wpList P ops Q (o :: rest) a W := h
theorem gate_update {t : TypeId} {m k v : Operand} (_h : o.op = .mapUpdate t m k v) (h : wpList P ops Q (o :: rest) a W) : wpList P ops Q (o :: rest) a W := h
theorem gate_lookup {t : TypeId} {m k : Operand} (_h : o.op = .lookup t m k true) (h : wpList P ops Q (o :: rest) a W) : wpList P ops Q (o :: rest) a W := h
theorem gate_makeMap {t : TypeId} (_h : o.op = .makeMap t none) (h : wpList P ops Q (o :: rest) a W) : wpList P ops Q (o :: rest) a W := h
theorem map_make {t : TypeId} (hg : o.guard = none) (hop : o.op = .makeMap t none)
    (h : ∀ b, b = W.heap.size → ∀ w1, w1.heap[b]? = some (.map #[] 0) → Below W.heap.size W w1 → wpList P ops Q rest (a.put o.dst (.map (some b))) w1) : wpList P ops Q (o :: rest) a W :=
  Kd.event_run hg (by simp [execOp, hop, makeMap, newObj, Sem.run, Result.andThen]) (h _ rfl _ (blk_new W _) (below_alloc (Below.refl _ _) _))
end
theorem obj_far {w : World} {g : Nat} {o : Obj} (h : w.heap[g]? = some o) {p : Addr} {u : Value} (hp : g ≠ p.block) : (w.setCell p u).heap[g]? = some o := (Below.heap_setCell w p u g hp).trans h
theorem form_zero (w : World) : (zeroValue 73).run Try.prog w = .ok (.agg #[.nilFunc, .int .i64 0, .int .i64 0, .nilFunc]) w := by kernel_rfl
set_option maxHeartbeats 16000000 in
set_option maxRecDepth 100000 in
theorem tree_forms.calls (w : World) : Calls Try.prog 51 #[] w fun e w' => ∃ b, e = .returned (.map (some b)) ∧ w'.heap[b]? = some (formMap 58) ∧ Below w.heap.size w w' ∧ w.heap.size ≤ b := by
  have hm := Try.underlying68
  have hk := Try.underlying5
  have hu := Try.underlying73
  have HB := Aside0.mk (Below.refl w.heap.size w)
  go_enter Try.func51, Try.ntmps51
  go_wp2_with (first | ((with_reducible refine gate_makeMap rfl ?_); refine map_make rfl rfl ?_; intro b hbe w1 hb1 hbl; have GW := Aside0.mk (show w.heap.size ≤ b by rw [hbe]; exact Nat.le_refl _); have HM := Aside0.mk hb1; have HB2 := Aside0.mk (below_step HB.out hbl); clear HB; have HB := HB2; clear HB2 hbe hb1 hbl) | ((with_reducible refine gate_insert rfl ?_); refine map_put rfl _ _ _ (Or.inr rfl) hm hk rfl rfl _ rfl HM.out (by rfl) ?_; intro w1 hb1 hg1; have HM2 := Aside0.mk hb1; have HB2 := Aside0.mk (HB.out.grown hg1 HB.out.size (fun k hk => by cases hk; exact GW.out)); clear HM HB hb1 hg1; have HM := HM2; have HB := HB2; clear HM2 HB2))
  have HM1 : Aside0 (_ = some (formMap 1)) := ⟨HM.out⟩
  clear HM
  go_loopg [2] 57 (fun kq v2 w' => ∃ n : Nat, v2 = .int .u8 n ∧ Aside0 (1 ≤ n ∧ kq + n = 58) ∧ Aside0 (w'.heap[b]? = some (formMap n)) ∧ Aside0 (Below w.heap.size w w'))
  case atStart => exact ⟨1, rfl, ⟨by omega⟩, HM1, HB⟩
  case round =>
    clear HM1 HB
    obtain ⟨n, rfl, HN, HM, HB⟩ := hrel
    by_cases hlast : n = 58
    · subst hlast
      go_wp2
      go_ret
      exact ⟨b, rfl, HM.out, HB.out, GW.out⟩
    have hc : n = 1 ∨ n = 2 ∨ n = 3 ∨ n = 4 ∨ n = 5 ∨ n = 6 ∨ n = 7 ∨ n = 8 ∨ n = 9 ∨ n = 10 ∨ n = 11 ∨ n = 12 ∨ n = 13 ∨ n = 14 ∨ n = 15 ∨ n = 16 ∨ n = 17 ∨ n = 18 ∨ n = 19 ∨ n = 20 ∨ n = 21 ∨ n = 22 ∨ n = 23 ∨ n = 24 ∨ n = 25 ∨ n = 26 ∨ n = 27 ∨ n = 28 ∨ n = 29 ∨ n = 30 ∨ n = 31 ∨ n = 32 ∨ n = 33 ∨ n = 34 ∨ n = 35 ∨ n = 36 ∨ n = 37 ∨ n = 38 ∨ n = 39 ∨ n = 40 ∨ n = 41 ∨ n = 42 ∨ n = 43 ∨ n = 44 ∨ n = 45 ∨ n = 46 ∨ n = 47 ∨ n = 48 ∨ n = 49 ∨ n = 50 ∨ n = 51 ∨ n = 52 ∨ n = 53 ∨ n = 54 ∨ n = 55 ∨ n = 56 ∨ n = 57 := by have := HN.out; omega
    clear hlast
    rcases hc with rfl | rfl | rfl | rfl | rfl | rfl | rfl | rfl | rfl | rfl | rfl | rfl | rfl | rfl | rfl | rfl | rfl | rfl | rfl | rfl | rfl | rfl | rfl | rfl | rfl | rfl | rfl | rfl | rfl | rfl | rfl | rfl | rfl | rfl | rfl | rfl | rfl | rfl | rfl | rfl | rfl | rfl | rfl | rfl | rfl | rfl | rfl | rfl | rfl | rfl | rfl | rfl | rfl | rfl | rfl | rfl | rfl
    · go_wp2_with (first | ((with_reducible refine gate_lookup rfl ?_); refine map_has rfl _ _ rfl hm hk rfl rfl HM.out 0 (.agg #[.func (.func 69) #[] #[], .int .i64 1, .int .i64 2048, .func (.func 70) #[] #[]]) (by rfl) ?_) | ((with_reducible refine gate_dst (N := 3) rfl ?_); refine box_event ?hg (N := 3) ?hd (cs := #[.nilFunc, .int .i64 0, .int .i64 0, .nilFunc]) (t := 73) ?hr ?_; (case hd => rfl); (case hg => rfl); (case hr => first | (go_simp; done) | (go_simp; rfl)); intro gb hg w1 hbox hb; have n0 := Aside0.mk (blk_below HM.out hb); have n1 := Aside0.mk (below_step HB.out hb); have n2 := Aside0.mk hbox; have n3 := Aside0.mk (show w.heap.size ≤ gb by rw [hg]; exact below_size HB.out); have n4 := Aside0.mk (show b ≠ gb by rw [hg]; exact Nat.ne_of_lt (blk_lt HM.out)); clear HM HB; have HM := n0; have HB := n1; have BK := n2; have GE := n3; have NB := n4; clear n0 n1 n2 n3 n4 hb hbox hg; have hcz0 : w1.cell? ⟨gb, 0, none⟩ = some .nilFunc := (blk_cell BK.out 0).trans rfl; have hcz1 : w1.cell? ⟨gb, 1, none⟩ = some (.int .i64 0) := (blk_cell BK.out 1).trans rfl; have hcz2 : w1.cell? ⟨gb, 2, none⟩ = some (.int .i64 0) := (blk_cell BK.out 2).trans rfl; have hcz3 : w1.cell? ⟨gb, 3, none⟩ = some .nilFunc := (blk_cell BK.out 3).trans rfl; have hfz0 := blk_frozen BK.out 0; have hfz1 := blk_frozen BK.out 1; have hfz2 := blk_frozen BK.out 2; have hfz3 := blk_frozen BK.out 3))
      go_roundg 56
      case measure => have := HN.out; omega
      case rel => exact ⟨2, rfl, ⟨by omega⟩, ⟨(obj_far (obj_far (obj_far (obj_far HM.out NB.out) NB.out) NB.out) NB.out)⟩, ⟨below_set (below_set (below_set (below_set HB.out GE.out) GE.out) GE.out) GE.out⟩⟩
    · go_wp2_with (first | ((with_reducible refine gate_lookup rfl ?_); refine map_has rfl _ _ rfl hm hk rfl rfl HM.out 1 (.agg #[.func (.func 69) #[] #[], .int .i64 0, .int .i64 0, .func (.func 71) #[] #[]]) (by rfl) ?_) | ((with_reducible refine gate_dst (N := 3) rfl ?_); refine box_event ?hg (N := 3) ?hd (cs := #[.nilFunc, .int .i64 0, .int .i64 0, .nilFunc]) (t := 73) ?hr ?_; (case hd => rfl); (case hg => rfl); (case hr => first | (go_simp; done) | (go_simp; rfl)); intro gb hg w1 hbox hb; have n0 := Aside0.mk (blk_below HM.out hb); have n1 := Aside0.mk (below_step HB.out hb); have n2 := Aside0.mk hbox; have n3 := Aside0.mk (show w.heap.size ≤ gb by rw [hg]; exact below_size HB.out); have n4 := Aside0.mk (show b ≠ gb by rw [hg]; exact Nat.ne_of_lt (blk_lt HM.out)); clear HM HB; have HM := n0; have HB := n1; have BK := n2; have GE := n3; have NB := n4; clear n0 n1 n2 n3 n4 hb hbox hg; have hcz0 : w1.cell? ⟨gb, 0, none⟩ = some .nilFunc := (blk_cell BK.out 0).trans rfl; have hcz1 : w1.cell? ⟨gb, 1, none⟩ = some (.int .i64 0) := (blk_cell BK.out 1).trans rfl; have hcz2 : w1.cell? ⟨gb, 2, none⟩ = some (.int .i64 0) := (blk_cell BK.out 2).trans rfl; have hcz3 : w1.cell? ⟨gb, 3, none⟩ = some .nilFunc := (blk_cell BK.out 3).trans rfl; have hfz0 := blk_frozen BK.out 0; have hfz1 := blk_frozen BK.out 1; have hfz2 := blk_frozen BK.out 2; have hfz3 := blk_frozen BK.out 3))
      go_roundg 55
      case measure => have := HN.out; omega
      case rel => exact ⟨3, rfl, ⟨by omega⟩, ⟨(obj_far (obj_far (obj_far (obj_far HM.out NB.out) NB.out) NB.out) NB.out)⟩, ⟨below_set (below_set (below_set (below_set HB.out GE.out) GE.out) GE.out) GE.out⟩⟩
    · go_wp2_with (first | ((with_reducible refine gate_lookup rfl ?_); refine map_has rfl _ _ rfl hm hk rfl rfl HM.out 2 (.agg #[.func (.func 72) #[] #[], .int .i64 0, .int .i64 2048, .func (.func 73) #[] #[]]) (by rfl) ?_) | ((with_reducible refine gate_dst (N := 3) rfl ?_); refine box_event ?hg (N := 3) ?hd (cs := #[.nilFunc, .int .i64 0, .int .i64 0, .nilFunc]) (t := 73) ?hr ?_; (case hd => rfl); (case hg => rfl); (case hr => first | (go_simp; done) | (go_simp; rfl)); intro gb hg w1 hbox hb; have n0 := Aside0.mk (blk_below HM.out hb); have n1 := Aside0.mk (below_step HB.out hb); have n2 := Aside0.mk hbox; have n3 := Aside0.mk (show w.heap.size ≤ gb by rw [hg]; exact below_size HB.out); have n4 := Aside0.mk (show b ≠ gb by rw [hg]; exact Nat.ne_of_lt (blk_lt HM.out)); clear HM HB; have HM := n0; have HB := n1; have BK := n2; have GE := n3; have NB := n4; clear n0 n1 n2 n3 n4 hb hbox hg; have hcz0 : w1.cell? ⟨gb, 0, none⟩ = some .nilFunc := (blk_cell BK.out 0).trans rfl; have hcz1 : w1.cell? ⟨gb, 1, none⟩ = some (.int .i64 0) := (blk_cell BK.out 1).trans rfl; have hcz2 : w1.cell? ⟨gb, 2, none⟩ = some (.int .i64 0) := (blk_cell BK.out 2).trans rfl; have hcz3 : w1.cell? ⟨gb, 3, none⟩ = some .nilFunc := (blk_cell BK.out 3).trans rfl; have hfz0 := blk_frozen BK.out 0; have hfz1 := blk_frozen BK.out 1; have hfz2 := blk_frozen BK.out 2; have hfz3 := blk_frozen BK.out 3))
      go_roundg 54
      case measure => have := HN.out; omega
      case rel => exact ⟨4, rfl, ⟨by omega⟩, ⟨(obj_far (obj_far (obj_far (obj_far HM.out NB.out) NB.out) NB.out) NB.out)⟩, ⟨below_set (below_set (below_set (below_set HB.out GE.out) GE.out) GE.out) GE.out⟩⟩
    · go_wp2_with (first | ((with_reducible refine gate_lookup rfl ?_); refine map_not rfl _ _ rfl hm hk rfl rfl HM.out _ (form_zero _) (by rfl) ?_) | ((with_reducible refine gate_dst (N := 3) rfl ?_); refine box_event ?hg (N := 3) ?hd (cs := #[.nilFunc, .int .i64 0, .int .i64 0, .nilFunc]) (t := 73) ?hr ?_; (case hd => rfl); (case hg => rfl); (case hr => first | (go_simp; done) | (go_simp; rfl)); intro gb hg w1 hbox hb; have n0 := Aside0.mk (blk_below HM.out hb); have n1 := Aside0.mk (below_step HB.out hb); have n2 := Aside0.mk hbox; have n3 := Aside0.mk (show w.heap.size ≤ gb by rw [hg]; exact below_size HB.out); have n4 := Aside0.mk (show b ≠ gb by rw [hg]; exact Nat.ne_of_lt (blk_lt HM.out)); clear HM HB; have HM := n0; have HB := n1; have BK := n2; have GE := n3; have NB := n4; clear n0 n1 n2 n3 n4 hb hbox hg; have hcz0 : w1.cell? ⟨gb, 0, none⟩ = some .nilFunc := (blk_cell BK.out 0).trans rfl; have hcz1 : w1.cell? ⟨gb, 1, none⟩ = some (.int .i64 0) := (blk_cell BK.out 1).trans rfl; have hcz2 : w1.cell? ⟨gb, 2, none⟩ = some (.int .i64 0) := (blk_cell BK.out 2).trans rfl; have hcz3 : w1.cell? ⟨gb, 3, none⟩ = some .nilFunc := (blk_cell BK.out 3).trans rfl; have hfz0 := blk_frozen BK.out 0; have hfz1 := blk_frozen BK.out 1; have hfz2 := blk_frozen BK.out 2; have hfz3 := blk_frozen BK.out 3) | ((with_reducible refine gate_update rfl ?_); refine map_put rfl _ _ _ (Or.inl rfl) hm hk rfl rfl _ rfl (obj_far (obj_far (obj_far (obj_far HM.out NB.out) NB.out) NB.out) NB.out) (by rfl) ?_; intro w2 hb1 hg1; have HM2 := Aside0.mk hb1; have HB2 := Aside0.mk (RowKit.Below.grown (below_set (below_set (below_set (below_set HB.out GE.out) GE.out) GE.out) GE.out) hg1 (below_size (below_set (below_set (below_set (below_set HB.out GE.out) GE.out) GE.out) GE.out)) (fun k hk => by cases hk; exact GW.out)); clear HM HB hb1 hg1; have HM := HM2; have HB := HB2; clear HM2 HB2))
      go_roundg 53
      case measure => have := HN.out; omega
      case rel => exact ⟨5, rfl, ⟨by omega⟩, ⟨HM.out⟩, HB⟩
    · go_wp2_with (first | ((with_reducible refine gate_lookup rfl ?_); refine map_not rfl _ _ rfl hm hk rfl rfl HM.out _ (form_zero _) (by rfl) ?_) | ((with_reducible refine gate_dst (N := 3) rfl ?_); refine box_event ?hg (N := 3) ?hd (cs := #[.nilFunc, .int .i64 0, .int .i64 0, .nilFunc]) (t := 73) ?hr ?_; (case hd => rfl); (case hg => rfl); (case hr => first | (go_simp; done) | (go_simp; rfl)); intro gb hg w1 hbox hb; have n0 := Aside0.mk (blk_below HM.out hb); have n1 := Aside0.mk (below_step HB.out hb); have n2 := Aside0.mk hbox; have n3 := Aside0.mk (show w.heap.size ≤ gb by rw [hg]; exact below_size HB.out); have n4 := Aside0.mk (show b ≠ gb by rw [hg]; exact Nat.ne_of_lt (blk_lt HM.out)); clear HM HB; have HM := n0; have HB := n1; have BK := n2; have GE := n3; have NB := n4; clear n0 n1 n2 n3 n4 hb hbox hg; have hcz0 : w1.cell? ⟨gb, 0, none⟩ = some .nilFunc := (blk_cell BK.out 0).trans rfl; have hcz1 : w1.cell? ⟨gb, 1, none⟩ = some (.int .i64 0) := (blk_cell BK.out 1).trans rfl; have hcz2 : w1.cell? ⟨gb, 2, none⟩ = some (.int .i64 0) := (blk_cell BK.out 2).trans rfl; have hcz3 : w1.cell? ⟨gb, 3, none⟩ = some .nilFunc := (blk_cell BK.out 3).trans rfl; have hfz0 := blk_frozen BK.out 0; have hfz1 := blk_frozen BK.out 1; have hfz2 := blk_frozen BK.out 2; have hfz3 := blk_frozen BK.out 3) | ((with_reducible refine gate_update rfl ?_); refine map_put rfl _ _ _ (Or.inl rfl) hm hk rfl rfl _ rfl (obj_far (obj_far (obj_far (obj_far HM.out NB.out) NB.out) NB.out) NB.out) (by rfl) ?_; intro w2 hb1 hg1; have HM2 := Aside0.mk hb1; have HB2 := Aside0.mk (RowKit.Below.grown (below_set (below_set (below_set (below_set HB.out GE.out) GE.out) GE.out) GE.out) hg1 (below_size (below_set (below_set (below_set (below_set HB.out GE.out) GE.out) GE.out) GE.out)) (fun k hk => by cases hk; exact GW.out)); clear HM HB hb1 hg1; have HM := HM2; have HB := HB2; clear HM2 HB2))
      go_roundg 52
      case measure => have := HN.out; omega
      case rel => exact ⟨6, rfl, ⟨by omega⟩, ⟨HM.out⟩, HB⟩
    · go_wp2_with (first | ((with_reducible refine gate_lookup rfl ?_); refine map_has rfl _ _ rfl hm hk rfl rfl HM.out 3 (.agg #[.func (.func 72) #[] #[], .int .i64 2, .int .i64 3, .func (.func 74) #[] #[]]) (by rfl) ?_) | ((with_reducible refine gate_dst (N := 3) rfl ?_); refine box_event ?hg (N := 3) ?hd (cs := #[.nilFunc, .int .i64 0, .int .i64 0, .nilFunc]) (t := 73) ?hr ?_; (case hd => rfl); (case hg => rfl); (case hr => first | (go_simp; done) | (go_simp; rfl)); intro gb hg w1 hbox hb; have n0 := Aside0.mk (blk_below HM.out hb); have n1 := Aside0.mk (below_step HB.out hb); have n2 := Aside0.mk hbox; have n3 := Aside0.mk (show w.heap.size ≤ gb by rw [hg]; exact below_size HB.out); have n4 := Aside0.mk (show b ≠ gb by rw [hg]; exact Nat.ne_of_lt (blk_lt HM.out)); clear HM HB; have HM := n0; have HB := n1; have BK := n2; have GE := n3; have NB := n4; clear n0 n1 n2 n3 n4 hb hbox hg; have hcz0 : w1.cell? ⟨gb, 0, none⟩ = some .nilFunc := (blk_cell BK.out 0).trans rfl; have hcz1 : w1.cell? ⟨gb, 1, none⟩ = some (.int .i64 0) := (blk_cell BK.out 1).trans rfl; have hcz2 : w1.cell? ⟨gb, 2, none⟩ = some (.int .i64 0) := (blk_cell BK.out 2).trans rfl; have hcz3 : w1.cell? ⟨gb, 3, none⟩ = some .nilFunc := (blk_cell BK.out 3).trans rfl; have hfz0 := blk_frozen BK.out 0; have hfz1 := blk_frozen BK.out 1; have hfz2 := blk_frozen BK.out 2; have hfz3 := blk_frozen BK.out 3))
      go_roundg 51
      case measure => have := HN.out; omega
      case rel => exact ⟨7, rfl, ⟨by omega⟩, ⟨(obj_far (obj_far (obj_far (obj_far HM.out NB.out) NB.out) NB.out) NB.out)⟩, ⟨below_set (below_set (below_set (below_set HB.out GE.out) GE.out) GE.out) GE.out⟩⟩
    · go_wp2_with (first | ((with_reducible refine gate_lookup rfl ?_); refine map_has rfl _ _ rfl hm hk rfl rfl HM.out 4 (.agg #[.func (.func 72) #[] #[], .int .i64 2, .int .i64 2, .func (.func 74) #[] #[]]) (by rfl) ?_) | ((with_reducible refine gate_dst (N := 3) rfl ?_); refine box_event ?hg (N := 3) ?hd (cs := #[.nilFunc, .int .i64 0, .int .i64 0, .nilFunc]) (t := 73) ?hr ?_; (case hd => rfl); (case hg => rfl); (case hr => first | (go_simp; done) | (go_simp; rfl)); intro gb hg w1 hbox hb; have n0 := Aside0.mk (blk_below HM.out hb); have n1 := Aside0.mk (below_step HB.out hb); have n2 := Aside0.mk hbox; have n3 := Aside0.mk (show w.heap.size ≤ gb by rw [hg]; exact below_size HB.out); have n4 := Aside0.mk (show b ≠ gb by rw [hg]; exact Nat.ne_of_lt (blk_lt HM.out)); clear HM HB; have HM := n0; have HB := n1; have BK := n2; have GE := n3; have NB := n4; clear n0 n1 n2 n3 n4 hb hbox hg; have hcz0 : w1.cell? ⟨gb, 0, none⟩ = some .nilFunc := (blk_cell BK.out 0).trans rfl; have hcz1 : w1.cell? ⟨gb, 1, none⟩ = some (.int .i64 0) := (blk_cell BK.out 1).trans rfl; have hcz2 : w1.cell? ⟨gb, 2, none⟩ = some (.int .i64 0) := (blk_cell BK.out 2).trans rfl; have hcz3 : w1.cell? ⟨gb, 3, none⟩ = some .nilFunc := (blk_cell BK.out 3).trans rfl; have hfz0 := blk_frozen BK.out 0; have hfz1 := blk_frozen BK.out 1; have hfz2 := blk_frozen BK.out 2; have hfz3 := blk_frozen BK.out 3))
      go_roundg 50
      case measure => have := HN.out; omega
      case rel => exact ⟨8, rfl, ⟨by omega⟩, ⟨(obj_far (obj_far (obj_far (obj_far HM.out NB.out) NB.out) NB.out) NB.out)⟩, ⟨below_set (below_set (below_set (below_set HB.out GE.out) GE.out) GE.out) GE.out⟩⟩
    · go_wp2_with (first | ((with_reducible refine gate_lookup rfl ?_); refine map_not rfl _ _ rfl hm hk rfl rfl HM.out _ (form_zero _) (by rfl) ?_) | ((with_reducible refine gate_dst (N := 3) rfl ?_); refine box_event ?hg (N := 3) ?hd (cs := #[.nilFunc, .int .i64 0, .int .i64 0, .nilFunc]) (t := 73) ?hr ?_; (case hd => rfl); (case hg => rfl); (case hr => first | (go_simp; done) | (go_simp; rfl)); intro gb hg w1 hbox hb; have n0 := Aside0.mk (blk_below HM.out hb); have n1 := Aside0.mk (below_step HB.out hb); have n2 := Aside0.mk hbox; have n3 := Aside0.mk (show w.heap.size ≤ gb by rw [hg]; exact below_size HB.out); have n4 := Aside0.mk (show b ≠ gb by rw [hg]; exact Nat.ne_of_lt (blk_lt HM.out)); clear HM HB; have HM := n0; have HB := n1; have BK := n2; have GE := n3; have NB := n4; clear n0 n1 n2 n3 n4 hb hbox hg; have hcz0 : w1.cell? ⟨gb, 0, none⟩ = some .nilFunc := (blk_cell BK.out 0).trans rfl; have hcz1 : w1.cell? ⟨gb, 1, none⟩ = some (.int .i64 0) := (blk_cell BK.out 1).trans rfl; have hcz2 : w1.cell? ⟨gb, 2, none⟩ = some (.int .i64 0) := (blk_cell BK.out 2).trans rfl; have hcz3 : w1.cell? ⟨gb, 3, none⟩ = some .nilFunc := (blk_cell BK.out 3).trans rfl; have hfz0 := blk_frozen BK.out 0; have hfz1 := blk_frozen BK.out 1; have hfz2 := blk_frozen BK.out 2; have hfz3 := blk_frozen BK.out 3) | ((with_reducible refine gate_update rfl ?_); refine map_put rfl _ _ _ (Or.inl rfl) hm hk rfl rfl _ rfl (obj_far (obj_far (obj_far (obj_far HM.out NB.out) NB.out) NB.out) NB.out) (by rfl) ?_; intro w2 hb1 hg1; have HM2 := Aside0.mk hb1; have HB2 := Aside0.mk (RowKit.Below.grown (below_set (below_set (below_set (below_set HB.out GE.out) GE.out) GE.out) GE.out) hg1 (below_size (below_set (below_set (below_set (below_set HB.out GE.out) GE.out) GE.out) GE.out)) (fun k hk => by cases hk; exact GW.out)); clear HM HB hb1 hg1; have HM := HM2; have HB := HB2; clear HM2 HB2))
      go_roundg 49
      case measure => have := HN.out; omega
      case rel => exact ⟨9, rfl, ⟨by omega⟩, ⟨HM.out⟩, HB⟩
    · go_wp2_with (first | ((with_reducible refine gate_lookup rfl ?_); refine map_not rfl _ _ rfl hm hk rfl rfl HM.out _ (form_zero _) (by rfl) ?_) | ((with_reducible refine gate_dst (N := 3) rfl ?_); refine box_event ?hg (N := 3) ?hd (cs := #[.nilFunc, .int .i64 0, .int .i64 0, .nilFunc]) (t := 73) ?hr ?_; (case hd => rfl); (case hg => rfl); (case hr => first | (go_simp; done) | (go_simp; rfl)); intro gb hg w1 hbox hb; have n0 := Aside0.mk (blk_below HM.out hb); have n1 := Aside0.mk (below_step HB.out hb); have n2 := Aside0.mk hbox; have n3 := Aside0.mk (show w.heap.size ≤ gb by rw [hg]; exact below_size HB.out); have n4 := Aside0.mk (show b ≠ gb by rw [hg]; exact Nat.ne_of_lt (blk_lt HM.out)); clear HM HB; have HM := n0; have HB := n1; have BK := n2; have GE := n3; have NB := n4; clear n0 n1 n2 n3 n4 hb hbox hg; have hcz0 : w1.cell? ⟨gb, 0, none⟩ = some .nilFunc := (blk_cell BK.out 0).trans rfl; have hcz1 : w1.cell? ⟨gb, 1, none⟩ = some (.int .i64 0) := (blk_cell BK.out 1).trans rfl; have hcz2 : w1.cell? ⟨gb, 2, none⟩ = some (.int .i64 0) := (blk_cell BK.out 2).trans rfl; have hcz3 : w1.cell? ⟨gb, 3, none⟩ = some .nilFunc := (blk_cell BK.out 3).trans rfl; have hfz0 := blk_frozen BK.out 0; have hfz1 := blk_frozen BK.out 1; have hfz2 := blk_frozen BK.out 2; have hfz3 := blk_frozen BK.out 3) | ((with_reducible refine gate_update rfl ?_); refine map_put rfl _ _ _ (Or.inl rfl) hm hk rfl rfl _ rfl (obj_far (obj_far (obj_far (obj_far HM.out NB.out) NB.out) NB.out) NB.out) (by rfl) ?_; intro w2 hb1 hg1; have HM2 := Aside0.mk hb1; have HB2 := Aside0.mk (RowKit.Below.grown (below_set (below_set (below_set (below_set HB.out GE.out) GE.out) GE.out) GE.out) hg1 (below_size (below_set (below_set (below_set (below_set HB.out GE.out) GE.out) GE.out) GE.out)) (fun k hk => by cases hk; exact GW.out)); clear HM HB hb1 hg1; have HM := HM2; have HB := HB2; clear HM2 HB2))
      go_roundg 48
      case measure => have := HN.out; omega
      case rel => exact ⟨10, rfl, ⟨by omega⟩, ⟨HM.out⟩, HB⟩
    · go_wp2_with (first | ((with_reducible refine gate_lookup rfl ?_); refine map_not rfl _ _ rfl hm hk rfl rfl HM.out _ (form_zero _) (by rfl) ?_) | ((with_reducible refine gate_dst (N := 3) rfl ?_); refine box_event ?hg (N := 3) ?hd (cs := #[.nilFunc, .int .i64 0, .int .i64 0, .nilFunc]) (t := 73) ?hr ?_; (case hd => rfl); (case hg => rfl); (case hr => first | (go_simp; done) | (go_simp; rfl)); intro gb hg w1 hbox hb; have n0 := Aside0.mk (blk_below HM.out hb); have n1 := Aside0.mk (below_step HB.out hb); have n2 := Aside0.mk hbox; have n3 := Aside0.mk (show w.heap.size ≤ gb by rw [hg]; exact below_size HB.out); have n4 := Aside0.mk (show b ≠ gb by rw [hg]; exact Nat.ne_of_lt (blk_lt HM.out)); clear HM HB; have HM := n0; have HB := n1; have BK := n2; have GE := n3; have NB := n4; clear n0 n1 n2 n3 n4 hb hbox hg; have hcz0 : w1.cell? ⟨gb, 0, none⟩ = some .nilFunc := (blk_cell BK.out 0).trans rfl; have hcz1 : w1.cell? ⟨gb, 1, none⟩ = some (.int .i64 0) := (blk_cell BK.out 1).trans rfl; have hcz2 : w1.cell? ⟨gb, 2, none⟩ = some (.int .i64 0) := (blk_cell BK.out 2).trans rfl; have hcz3 : w1.cell? ⟨gb, 3, none⟩ = some .nilFunc := (blk_cell BK.out 3).trans rfl; have hfz0 := blk_frozen BK.out 0; have hfz1 := blk_frozen BK.out 1; have hfz2 := blk_frozen BK.out 2; have hfz3 := blk_frozen BK.out 3) | ((with_reducible refine gate_update rfl ?_); refine map_put rfl _ _ _ (Or.inl rfl) hm hk rfl rfl _ rfl (obj_far (obj_far (obj_far (obj_far HM.out NB.out) NB.out) NB.out) NB.out) (by rfl) ?_; intro w2 hb1 hg1; have HM2 := Aside0.mk hb1; have HB2 := Aside0.mk (RowKit.Below.grown (below_set (below_set (below_set (below_set HB.out GE.out) GE.out) GE.out) GE.out) hg1 (below_size (below_set (below_set (below_set (below_set HB.out GE.out) GE.out) GE.out) GE.out)) (fun k hk => by cases hk; exact GW.out)); clear HM HB hb1 hg1; have HM := HM2; have HB := HB2; clear HM2 HB2))
      go_roundg 47
      case measure => have := HN.out; omega
      case rel => exact ⟨11, rfl, ⟨by omega⟩, ⟨HM.out⟩, HB⟩
    · go_wp2_with (first | ((with_reducible refine gate_lookup rfl ?_); refine map_not rfl _ _ rfl hm hk rfl rfl HM.out _ (form_zero _) (by rfl) ?_) | ((with_reducible refine gate_dst (N := 3) rfl ?_); refine box_event ?hg (N := 3) ?hd (cs := #[.nilFunc, .int .i64 0, .int .i64 0, .nilFunc]) (t := 73) ?hr ?_; (case hd => rfl); (case hg => rfl); (case hr => first | (go_simp; done) | (go_simp; rfl)); intro gb hg w1 hbox hb; have n0 := Aside0.mk (blk_below HM.out hb); have n1 := Aside0.mk (below_step HB.out hb); have n2 := Aside0.mk hbox; have n3 := Aside0.mk (show w.heap.size ≤ gb by rw [hg]; exact below_size HB.out); have n4 := Aside0.mk (show b ≠ gb by rw [hg]; exact Nat.ne_of_lt (blk_lt HM.out)); clear HM HB; have HM := n0; have HB := n1; have BK := n2; have GE := n3; have NB := n4; clear n0 n1 n2 n3 n4 hb hbox hg; have hcz0 : w1.cell? ⟨gb, 0, none⟩ = some .nilFunc := (blk_cell BK.out 0).trans rfl; have hcz1 : w1.cell? ⟨gb, 1, none⟩ = some (.int .i64 0) := (blk_cell BK.out 1).trans rfl; have hcz2 : w1.cell? ⟨gb, 2, none⟩ = some (.int .i64 0) := (blk_cell BK.out 2).trans rfl; have hcz3 : w1.cell? ⟨gb, 3, none⟩ = some .nilFunc := (blk_cell BK.out 3).trans rfl; have hfz0 := blk_frozen BK.out 0; have hfz1 := blk_frozen BK.out 1; have hfz2 := blk_frozen BK.out 2; have hfz3 := blk_frozen BK.out 3) | ((with_reducible refine gate_update rfl ?_); refine map_put rfl _ _ _ (Or.inl rfl) hm hk rfl rfl _ rfl (obj_far (obj_far (obj_far (obj_far HM.out NB.out) NB.out) NB.out) NB.out) (by rfl) ?_; intro w2 hb1 hg1; have HM2 := Aside0.mk hb1; have HB2 := Aside0.mk (RowKit.Below.grown (below_set (below_set (below_set (below_set HB.out GE.out) GE.out) GE.out) GE.out) hg1 (below_size (below_set (below_set (below_set (below_set HB.out GE.out) GE.out) GE.out) GE.out)) (fun k hk => by cases hk; exact GW.out)); clear HM HB hb1 hg1; have HM := HM2; have HB := HB2; clear HM2 HB2))
      go_roundg 46
      case measure => have := HN.out; omega
      case rel => exact ⟨12, rfl, ⟨by omega⟩, ⟨HM.out⟩, HB⟩
    · go_wp2_with (first | ((with_reducible refine gate_lookup rfl ?_); refine map_not rfl _ _ rfl hm hk rfl rfl HM.out _ (form_zero _) (by rfl) ?_) | ((with_reducible refine gate_dst (N := 3) rfl ?_); refine box_event ?hg (N := 3) ?hd (cs := #[.nilFunc, .int .i64 0, .int .i64 0, .nilFunc]) (t := 73) ?hr ?_; (case hd => rfl); (case hg => rfl); (case hr => first | (go_simp; done) | (go_simp; rfl)); intro gb hg w1 hbox hb; have n0 := Aside0.mk (blk_below HM.out hb); have n1 := Aside0.mk (below_step HB.out hb); have n2 := Aside0.mk hbox; have n3 := Aside0.mk (show w.heap.size ≤ gb by rw [hg]; exact below_size HB.out); have n4 := Aside0.mk (show b ≠ gb by rw [hg]; exact Nat.ne_of_lt (blk_lt HM.out)); clear HM HB; have HM := n0; have HB := n1; have BK := n2; have GE := n3; have NB := n4; clear n0 n1 n2 n3 n4 hb hbox hg; have hcz0 : w1.cell? ⟨gb, 0, none⟩ = some .nilFunc := (blk_cell BK.out 0).trans rfl; have hcz1 : w1.cell? ⟨gb, 1, none⟩ = some (.int .i64 0) := (blk_cell BK.out 1).trans rfl; have hcz2 : w1.cell? ⟨gb, 2, none⟩ = some (.int .i64 0) := (blk_cell BK.out 2).trans rfl; have hcz3 : w1.cell? ⟨gb, 3, none⟩ = some .nilFunc := (blk_cell BK.out 3).trans rfl; have hfz0 := blk_frozen BK.out 0; have hfz1 := blk_frozen BK.out 1; have hfz2 := blk_frozen BK.out 2; have hfz3 := blk_frozen BK.out 3))
      go_roundg 45
      case measure => have := HN.out; omega
      case rel => exact ⟨13, rfl, ⟨by omega⟩, ⟨(obj_far (obj_far (obj_far (obj_far HM.out NB.out) NB.out) NB.out) NB.out)⟩, ⟨below_set (below_set (below_set (below_set HB.out GE.out) GE.out) GE.out) GE.out⟩⟩
    · go_wp2_with (first | ((with_reducible refine gate_lookup rfl ?_); refine map_not rfl _ _ rfl hm hk rfl rfl HM.out _ (form_zero _) (by rfl) ?_) | ((with_reducible refine gate_dst (N := 3) rfl ?_); refine box_event ?hg (N := 3) ?hd (cs := #[.nilFunc, .int .i64 0, .int .i64 0, .nilFunc]) (t := 73) ?hr ?_; (case hd => rfl); (case hg => rfl); (case hr => first | (go_simp; done) | (go_simp; rfl)); intro gb hg w1 hbox hb; have n0 := Aside0.mk (blk_below HM.out hb); have n1 := Aside0.mk (below_step HB.out hb); have n2 := Aside0.mk hbox; have n3 := Aside0.mk (show w.heap.size ≤ gb by rw [hg]; exact below_size HB.out); have n4 := Aside0.mk (show b ≠ gb by rw [hg]; exact Nat.ne_of_lt (blk_lt HM.out)); clear HM HB; have HM := n0; have HB := n1; have BK := n2; have GE := n3; have NB := n4; clear n0 n1 n2 n3 n4 hb hbox hg; have hcz0 : w1.cell? ⟨gb, 0, none⟩ = some .nilFunc := (blk_cell BK.out 0).trans rfl; have hcz1 : w1.cell? ⟨gb, 1, none⟩ = some (.int .i64 0) := (blk_cell BK.out 1).trans rfl; have hcz2 : w1.cell? ⟨gb, 2, none⟩ = some (.int .i64 0) := (blk_cell BK.out 2).trans rfl; have hcz3 : w1.cell? ⟨gb, 3, none⟩ = some .nilFunc := (blk_cell BK.out 3).trans rfl; have hfz0 := blk_frozen BK.out 0; have hfz1 := blk_frozen BK.out 1; have hfz2 := blk_frozen BK.out 2; have hfz3 := blk_frozen BK.out 3))
      go_roundg 44
      case measure => have := HN.out; omega
      case rel => exact ⟨14, rfl, ⟨by omega⟩, ⟨(obj_far (obj_far (obj_far (obj_far HM.out NB.out) NB.out) NB.out) NB.out)⟩, ⟨below_set (below_set (below_set (below_set HB.out GE.out) GE.out) GE.out) GE.out⟩⟩
    · go_wp2_with (first | ((with_reducible refine gate_lookup rfl ?_); refine map_not rfl _ _ rfl hm hk rfl rfl HM.out _ (form_zero _) (by rfl) ?_) | ((with_reducible refine gate_dst (N := 3) rfl ?_); refine box_event ?hg (N := 3) ?hd (cs := #[.nilFunc, .int .i64 0, .int .i64 0, .nilFunc]) (t := 73) ?hr ?_; (case hd => rfl); (case hg => rfl); (case hr => first | (go_simp; done) | (go_simp; rfl)); intro gb hg w1 hbox hb; have n0 := Aside0.mk (blk_below HM.out hb); have n1 := Aside0.mk (below_step HB.out hb); have n2 := Aside0.mk hbox; have n3 := Aside0.mk (show w.heap.size ≤ gb by rw [hg]; exact below_size HB.out); have n4 := Aside0.mk (show b ≠ gb by rw [hg]; exact Nat.ne_of_lt (blk_lt HM.out)); clear HM HB; have HM := n0; have HB := n1; have BK := n2; have GE := n3; have NB := n4; clear n0 n1 n2 n3 n4 hb hbox hg; have hcz0 : w1.cell? ⟨gb, 0, none⟩ = some .nilFunc := (blk_cell BK.out 0).trans rfl; have hcz1 : w1.cell? ⟨gb, 1, none⟩ = some (.int .i64 0) := (blk_cell BK.out 1).trans rfl; have hcz2 : w1.cell? ⟨gb, 2, none⟩ = some (.int .i64 0) := (blk_cell BK.out 2).trans rfl; have hcz3 : w1.cell? ⟨gb, 3, none⟩ = some .nilFunc := (blk_cell BK.out 3).trans rfl; have hfz0 := blk_frozen BK.out 0; have hfz1 := blk_frozen BK.out 1; have hfz2 := blk_frozen BK.out 2; have hfz3 := blk_frozen BK.out 3))
      go_roundg 43
      case measure => have := HN.out; omega
      case rel => exact ⟨15, rfl, ⟨by omega⟩, ⟨(obj_far (obj_far (obj_far (obj_far HM.out NB.out) NB.out) NB.out) NB.out)⟩, ⟨below_set (below_set (below_set (below_set HB.out GE.out) GE.out) GE.out) GE.out⟩⟩
    · go_wp2_with (first | ((with_reducible refine gate_lookup rfl ?_); refine map_not rfl _ _ rfl hm hk rfl rfl HM.out _ (form_zero _) (by rfl) ?_) | ((with_reducible refine gate_dst (N := 3) rfl ?_); refine box_event ?hg (N := 3) ?hd (cs := #[.nilFunc, .int .i64 0, .int .i64 0, .nilFunc]) (t := 73) ?hr ?_; (case hd => rfl); (case hg => rfl); (case hr => first | (go_simp; done) | (go_simp; rfl)); intro gb hg w1 hbox hb; have n0 := Aside0.mk (blk_below HM.out hb); have n1 := Aside0.mk (below_step HB.out hb); have n2 := Aside0.mk hbox; have n3 := Aside0.mk (show w.heap.size ≤ gb by rw [hg]; exact below_size HB.out); have n4 := Aside0.mk (show b ≠ gb by rw [hg]; exact Nat.ne_of_lt (blk_lt HM.out)); clear HM HB; have HM := n0; have HB := n1; have BK := n2; have GE := n3; have NB := n4; clear n0 n1 n2 n3 n4 hb hbox hg; have hcz0 : w1.cell? ⟨gb, 0, none⟩ = some .nilFunc := (blk_cell BK.out 0).trans rfl; have hcz1 : w1.cell? ⟨gb, 1, none⟩ = some (.int .i64 0) := (blk_cell BK.out 1).trans rfl; have hcz2 : w1.cell? ⟨gb, 2, none⟩ = some (.int .i64 0) := (blk_cell BK.out 2).trans rfl; have hcz3 : w1.cell? ⟨gb, 3, none⟩ = some .nilFunc := (blk_cell BK.out 3).trans rfl; have hfz0 := blk_frozen BK.out 0; have hfz1 := blk_frozen BK.out 1; have hfz2 := blk_frozen BK.out 2; have hfz3 := blk_frozen BK.out 3))
      go_roundg 42
      case measure => have := HN.out; omega
      case rel => exact ⟨16, rfl, ⟨by omega⟩, ⟨(obj_far (obj_far (obj_far (obj_far HM.out NB.out) NB.out) NB.out) NB.out)⟩, ⟨below_set (below_set (below_set (below_set HB.out GE.out) GE.out) GE.out) GE.out⟩⟩
    · go_wp2_with (first | ((with_reducible refine gate_lookup rfl ?_); refine map_not rfl _ _ rfl hm hk rfl rfl HM.out _ (form_zero _) (by rfl) ?_) | ((with_reducible refine gate_dst (N := 3) rfl ?_); refine box_event ?hg (N := 3) ?hd (cs := #[.nilFunc, .int .i64 0, .int .i64 0, .nilFunc]) (t := 73) ?hr ?_; (case hd => rfl); (case hg => rfl); (case hr => first | (go_simp; done) | (go_simp; rfl)); intro gb hg w1 hbox hb; have n0 := Aside0.mk (blk_below HM.out hb); have n1 := Aside0.mk (below_step HB.out hb); have n2 := Aside0.mk hbox; have n3 := Aside0.mk (show w.heap.size ≤ gb by rw [hg]; exact below_size HB.out); have n4 := Aside0.mk (show b ≠ gb by rw [hg]; exact Nat.ne_of_lt (blk_lt HM.out)); clear HM HB; have HM := n0; have HB := n1; have BK := n2; have GE := n3; have NB := n4; clear n0 n1 n2 n3 n4 hb hbox hg; have hcz0 : w1.cell? ⟨gb, 0, none⟩ = some .nilFunc := (blk_cell BK.out 0).trans rfl; have hcz1 : w1.cell? ⟨gb, 1, none⟩ = some (.int .i64 0) := (blk_cell BK.out 1).trans rfl; have hcz2 : w1.cell? ⟨gb, 2, none⟩ = some (.int .i64 0) := (blk_cell BK.out 2).trans rfl; have hcz3 : w1.cell? ⟨gb, 3, none⟩ = some .nilFunc := (blk_cell BK.out 3).trans rfl; have hfz0 := blk_frozen BK.out 0; have hfz1 := blk_frozen BK.out 1; have hfz2 := blk_frozen BK.out 2; have hfz3 := blk_frozen BK.out 3))
      go_roundg 41
      case measure => have := HN.out; omega
      case rel => exact ⟨17, rfl, ⟨by omega⟩, ⟨(obj_far (obj_far (obj_far (obj_far HM.out NB.out) NB.out) NB.out) NB.out)⟩, ⟨below_set (below_set (below_set (below_set HB.out GE.out) GE.out) GE.out) GE.out⟩⟩
    · go_wp2_with (first | ((with_reducible refine gate_lookup rfl ?_); refine map_not rfl _ _ rfl hm hk rfl rfl HM.out _ (form_zero _) (by rfl) ?_) | ((with_reducible refine gate_dst (N := 3) rfl ?_); refine box_event ?hg (N := 3) ?hd (cs := #[.nilFunc, .int .i64 0, .int .i64 0, .nilFunc]) (t := 73) ?hr ?_; (case hd => rfl); (case hg => rfl); (case hr => first | (go_simp; done) | (go_simp; rfl)); intro gb hg w1 hbox hb; have n0 := Aside0.mk (blk_below HM.out hb); have n1 := Aside0.mk (below_step HB.out hb); have n2 := Aside0.mk hbox; have n3 := Aside0.mk (show w.heap.size ≤ gb by rw [hg]; exact below_size HB.out); have n4 := Aside0.mk (show b ≠ gb by rw [hg]; exact Nat.ne_of_lt (blk_lt HM.out)); clear HM HB; have HM := n0; have HB := n1; have BK := n2; have GE := n3; have NB := n4; clear n0 n1 n2 n3 n4 hb hbox hg; have hcz0 : w1.cell? ⟨gb, 0, none⟩ = some .nilFunc := (blk_cell BK.out 0).trans rfl; have hcz1 : w1.cell? ⟨gb, 1, none⟩ = some (.int .i64 0) := (blk_cell BK.out 1).trans rfl; have hcz2 : w1.cell? ⟨gb, 2, none⟩ = some (.int .i64 0) := (blk_cell BK.out 2).trans rfl; have hcz3 : w1.cell? ⟨gb, 3, none⟩ = some .nilFunc := (blk_cell BK.out 3).trans rfl; have hfz0 := blk_frozen BK.out 0; have hfz1 := blk_frozen BK.out 1; have hfz2 := blk_frozen BK.out 2; have hfz3 := blk_frozen BK.out 3))
      go_roundg 40
      case measure => have := HN.out; omega
      case rel => exact ⟨18, rfl, ⟨by omega⟩, ⟨(obj_far (obj_far (obj_far (obj_far HM.out NB.out) NB.out) NB.out) NB.out)⟩, ⟨below_set (below_set (below_set (below_set HB.out GE.out) GE.out) GE.out) GE.out⟩⟩
    · go_wp2_with (first | ((with_reducible refine gate_lookup rfl ?_); refine map_not rfl _ _ rfl hm hk rfl rfl HM.out _ (form_zero _) (by rfl) ?_) | ((with_reducible refine gate_dst (N := 3) rfl ?_); refine box_event ?hg (N := 3) ?hd (cs := #[.nilFunc, .int .i64 0, .int .i64 0, .nilFunc]) (t := 73) ?hr ?_; (case hd => rfl); (case hg => rfl); (case hr => first | (go_simp; done) | (go_simp; rfl)); intro gb hg w1 hbox hb; have n0 := Aside0.mk (blk_below HM.out hb); have n1 := Aside0.mk (below_step HB.out hb); have n2 := Aside0.mk hbox; have n3 := Aside0.mk (show w.heap.size ≤ gb by rw [hg]; exact below_size HB.out); have n4 := Aside0.mk (show b ≠ gb by rw [hg]; exact Nat.ne_of_lt (blk_lt HM.out)); clear HM HB; have HM := n0; have HB := n1; have BK := n2; have GE := n3; have NB := n4; clear n0 n1 n2 n3 n4 hb hbox hg; have hcz0 : w1.cell? ⟨gb, 0, none⟩ = some .nilFunc := (blk_cell BK.out 0).trans rfl; have hcz1 : w1.cell? ⟨gb, 1, none⟩ = some (.int .i64 0) := (blk_cell BK.out 1).trans rfl; have hcz2 : w1.cell? ⟨gb, 2, none⟩ = some (.int .i64 0) := (blk_cell BK.out 2).trans rfl; have hcz3 : w1.cell? ⟨gb, 3, none⟩ = some .nilFunc := (blk_cell BK.out 3).trans rfl; have hfz0 := blk_frozen BK.out 0; have hfz1 := blk_frozen BK.out 1; have hfz2 := blk_frozen BK.out 2; have hfz3 := blk_frozen BK.out 3))
      go_roundg 39
      case measure => have := HN.out; omega
      case rel => exact ⟨19, rfl, ⟨by omega⟩, ⟨(obj_far (obj_far (obj_far (obj_far HM.out NB.out) NB.out) NB.out) NB.out)⟩, ⟨below_set (below_set (below_set (below_set HB.out GE.out) GE.out) GE.out) GE.out⟩⟩
    · go_wp2_with (first | ((with_reducible refine gate_lookup rfl ?_); refine map_not rfl _ _ rfl hm hk rfl rfl HM.out _ (form_zero _) (by rfl) ?_) | ((with_reducible refine gate_dst (N := 3) rfl ?_); refine box_event ?hg (N := 3) ?hd (cs := #[.nilFunc, .int .i64 0, .int .i64 0, .nilFunc]) (t := 73) ?hr ?_; (case hd => rfl); (case hg => rfl); (case hr => first | (go_simp; done) | (go_simp; rfl)); intro gb hg w1 hbox hb; have n0 := Aside0.mk (blk_below HM.out hb); have n1 := Aside0.mk (below_step HB.out hb); have n2 := Aside0.mk hbox; have n3 := Aside0.mk (show w.heap.size ≤ gb by rw [hg]; exact below_size HB.out); have n4 := Aside0.mk (show b ≠ gb by rw [hg]; exact Nat.ne_of_lt (blk_lt HM.out)); clear HM HB; have HM := n0; have HB := n1; have BK := n2; have GE := n3; have NB := n4; clear n0 n1 n2 n3 n4 hb hbox hg; have hcz0 : w1.cell? ⟨gb, 0, none⟩ = some .nilFunc := (blk_cell BK.out 0).trans rfl; have hcz1 : w1.cell? ⟨gb, 1, none⟩ = some (.int .i64 0) := (blk_cell BK.out 1).trans rfl; have hcz2 : w1.cell? ⟨gb, 2, none⟩ = some (.int .i64 0) := (blk_cell BK.out 2).trans rfl; have hcz3 : w1.cell? ⟨gb, 3, none⟩ = some .nilFunc := (blk_cell BK.out 3).trans rfl; have hfz0 := blk_frozen BK.out 0; have hfz1 := blk_frozen BK.out 1; have hfz2 := blk_frozen BK.out 2; have hfz3 := blk_frozen BK.out 3))
      go_roundg 38
      case measure => have := HN.out; omega
      case rel => exact ⟨20, rfl, ⟨by omega⟩, ⟨(obj_far (obj_far (obj_far (obj_far HM.out NB.out) NB.out) NB.out) NB.out)⟩, ⟨below_set (below_set (below_set (below_set HB.out GE.out) GE.out) GE.out) GE.out⟩⟩
    · go_wp2_with (first | ((with_reducible refine gate_lookup rfl ?_); refine map_not rfl _ _ rfl hm hk rfl rfl HM.out _ (form_zero _) (by rfl) ?_) | ((with_reducible refine gate_dst (N := 3) rfl ?_); refine box_event ?hg (N := 3) ?hd (cs := #[.nilFunc, .int .i64 0, .int .i64 0, .nilFunc]) (t := 73) ?hr ?_; (case hd => rfl); (case hg => rfl); (case hr => first | (go_simp; done) | (go_simp; rfl)); intro gb hg w1 hbox hb; have n0 := Aside0.mk (blk_below HM.out hb); have n1 := Aside0.mk (below_step HB.out hb); have n2 := Aside0.mk hbox; have n3 := Aside0.mk (show w.heap.size ≤ gb by rw [hg]; exact below_size HB.out); have n4 := Aside0.mk (show b ≠ gb by rw [hg]; exact Nat.ne_of_lt (blk_lt HM.out)); clear HM HB; have HM := n0; have HB := n1; have BK := n2; have GE := n3; have NB := n4; clear n0 n1 n2 n3 n4 hb hbox hg; have hcz0 : w1.cell? ⟨gb, 0, none⟩ = some .nilFunc := (blk_cell BK.out 0).trans rfl; have hcz1 : w1.cell? ⟨gb, 1, none⟩ = some (.int .i64 0) := (blk_cell BK.out 1).trans rfl; have hcz2 : w1.cell? ⟨gb, 2, none⟩ = some (.int .i64 0) := (blk_cell BK.out 2).trans rfl; have hcz3 : w1.cell? ⟨gb, 3, none⟩ = some .nilFunc := (blk_cell BK.out 3).trans rfl; have hfz0 := blk_frozen BK.out 0; have hfz1 := blk_frozen BK.out 1; have hfz2 := blk_frozen BK.out 2; have hfz3 := blk_frozen BK.out 3) | ((with_reducible refine gate_update rfl ?_); refine map_put rfl _ _ _ (Or.inl rfl) hm hk rfl rfl _ rfl (obj_far (obj_far (obj_far (obj_far HM.out NB.out) NB.out) NB.out) NB.out) (by rfl) ?_; intro w2 hb1 hg1; have HM2 := Aside0.mk hb1; have HB2 := Aside0.mk (RowKit.Below.grown (below_set (below_set (below_set (below_set HB.out GE.out) GE.out) GE.out) GE.out) hg1 (below_size (below_set (below_set (below_set (below_set HB.out GE.out) GE.out) GE.out) GE.out)) (fun k hk => by cases hk; exact GW.out)); clear HM HB hb1 hg1; have HM := HM2; have HB := HB2; clear HM2 HB2))
      go_roundg 37
      case measure => have := HN.out; omega
      case rel => exact ⟨21, rfl, ⟨by omega⟩, ⟨HM.out⟩, HB⟩
    · go_wp2_with (first | ((with_reducible refine gate_lookup rfl ?_); refine map_not rfl _ _ rfl hm hk rfl rfl HM.out _ (form_zero _) (by rfl) ?_) | ((with_reducible refine gate_dst (N := 3) rfl ?_); refine box_event ?hg (N := 3) ?hd (cs := #[.nilFunc, .int .i64 0, .int .i64 0, .nilFunc]) (t := 73) ?hr ?_; (case hd => rfl); (case hg => rfl); (case hr => first | (go_simp; done) | (go_simp; rfl)); intro gb hg w1 hbox hb; have n0 := Aside0.mk (blk_below HM.out hb); have n1 := Aside0.mk (below_step HB.out hb); have n2 := Aside0.mk hbox; have n3 := Aside0.mk (show w.heap.size ≤ gb by rw [hg]; exact below_size HB.out); have n4 := Aside0.mk (show b ≠ gb by rw [hg]; exact Nat.ne_of_lt (blk_lt HM.out)); clear HM HB; have HM := n0; have HB := n1; have BK := n2; have GE := n3; have NB := n4; clear n0 n1 n2 n3 n4 hb hbox hg; have hcz0 : w1.cell? ⟨gb, 0, none⟩ = some .nilFunc := (blk_cell BK.out 0).trans rfl; have hcz1 : w1.cell? ⟨gb, 1, none⟩ = some (.int .i64 0) := (blk_cell BK.out 1).trans rfl; have hcz2 : w1.cell? ⟨gb, 2, none⟩ = some (.int .i64 0) := (blk_cell BK.out 2).trans rfl; have hcz3 : w1.cell? ⟨gb, 3, none⟩ = some .nilFunc := (blk_cell BK.out 3).trans rfl; have hfz0 := blk_frozen BK.out 0; have hfz1 := blk_frozen BK.out 1; have hfz2 := blk_frozen BK.out 2; have hfz3 := blk_frozen BK.out 3) | ((with_reducible refine gate_update rfl ?_); refine map_put rfl _ _ _ (Or.inl rfl) hm hk rfl rfl _ rfl (obj_far (obj_far (obj_far (obj_far HM.out NB.out) NB.out) NB.out) NB.out) (by rfl) ?_; intro w2 hb1 hg1; have HM2 := Aside0.mk hb1; have HB2 := Aside0.mk (RowKit.Below.grown (below_set (below_set (below_set (below_set HB.out GE.out) GE.out) GE.out) GE.out) hg1 (below_size (below_set (below_set (below_set (below_set HB.out GE.out) GE.out) GE.out) GE.out)) (fun k hk => by cases hk; exact GW.out)); clear HM HB hb1 hg1; have HM := HM2; have HB := HB2; clear HM2 HB2))
      go_roundg 36
      case measure => have := HN.out; omega
      case rel => exact ⟨22, rfl, ⟨by omega⟩, ⟨HM.out⟩, HB⟩
    · go_wp2_with (first | ((with_reducible refine gate_lookup rfl ?_); refine map_not rfl _ _ rfl hm hk rfl rfl HM.out _ (form_zero _) (by rfl) ?_) | ((with_reducible refine gate_dst (N := 3) rfl ?_); refine box_event ?hg (N := 3) ?hd (cs := #[.nilFunc, .int .i64 0, .int .i64 0, .nilFunc]) (t := 73) ?hr ?_; (case hd => rfl); (case hg => rfl); (case hr => first | (go_simp; done) | (go_simp; rfl)); intro gb hg w1 hbox hb; have n0 := Aside0.mk (blk_below HM.out hb); have n1 := Aside0.mk (below_step HB.out hb); have n2 := Aside0.mk hbox; have n3 := Aside0.mk (show w.heap.size ≤ gb by rw [hg]; exact below_size HB.out); have n4 := Aside0.mk (show b ≠ gb by rw [hg]; exact Nat.ne_of_lt (blk_lt HM.out)); clear HM HB; have HM := n0; have HB := n1; have BK := n2; have GE := n3; have NB := n4; clear n0 n1 n2 n3 n4 hb hbox hg; have hcz0 : w1.cell? ⟨gb, 0, none⟩ = some .nilFunc := (blk_cell BK.out 0).trans rfl; have hcz1 : w1.cell? ⟨gb, 1, none⟩ = some (.int .i64 0) := (blk_cell BK.out 1).trans rfl; have hcz2 : w1.cell? ⟨gb, 2, none⟩ = some (.int .i64 0) := (blk_cell BK.out 2).trans rfl; have hcz3 : w1.cell? ⟨gb, 3, none⟩ = some .nilFunc := (blk_cell BK.out 3).trans rfl; have hfz0 := blk_frozen BK.out 0; have hfz1 := blk_frozen BK.out 1; have hfz2 := blk_frozen BK.out 2; have hfz3 := blk_frozen BK.out 3) | ((with_reducible refine gate_update rfl ?_); refine map_put rfl _ _ _ (Or.inl rfl) hm hk rfl rfl _ rfl (obj_far (obj_far (obj_far (obj_far HM.out NB.out) NB.out) NB.out) NB.out) (by rfl) ?_; intro w2 hb1 hg1; have HM2 := Aside0.mk hb1; have HB2 := Aside0.mk (RowKit.Below.grown (below_set (below_set (below_set (below_set HB.out GE.out) GE.out) GE.out) GE.out) hg1 (below_size (below_set (below_set (below_set (below_set HB.out GE.out) GE.out) GE.out) GE.out)) (fun k hk => by cases hk; exact GW.out)); clear HM HB hb1 hg1; have HM := HM2; have HB := HB2; clear HM2 HB2))
      go_roundg 35
      case measure => have := HN.out; omega
      case rel => exact ⟨23, rfl, ⟨by omega⟩, ⟨HM.out⟩, HB⟩
    · go_wp2_with (first | ((with_reducible refine gate_lookup rfl ?_); refine map_has rfl _ _ rfl hm hk rfl rfl HM.out 8 (.agg #[.func (.func 72) #[] #[], .int .i64 0, .int .i64 0, .func (.func 71) #[] #[]]) (by rfl) ?_) | ((with_reducible refine gate_dst (N := 3) rfl ?_); refine box_event ?hg (N := 3) ?hd (cs := #[.nilFunc, .int .i64 0, .int .i64 0, .nilFunc]) (t := 73) ?hr ?_; (case hd => rfl); (case hg => rfl); (case hr => first | (go_simp; done) | (go_simp; rfl)); intro gb hg w1 hbox hb; have n0 := Aside0.mk (blk_below HM.out hb); have n1 := Aside0.mk (below_step HB.out hb); have n2 := Aside0.mk hbox; have n3 := Aside0.mk (show w.heap.size ≤ gb by rw [hg]; exact below_size HB.out); have n4 := Aside0.mk (show b ≠ gb by rw [hg]; exact Nat.ne_of_lt (blk_lt HM.out)); clear HM HB; have HM := n0; have HB := n1; have BK := n2; have GE := n3; have NB := n4; clear n0 n1 n2 n3 n4 hb hbox hg; have hcz0 : w1.cell? ⟨gb, 0, none⟩ = some .nilFunc := (blk_cell BK.out 0).trans rfl; have hcz1 : w1.cell? ⟨gb, 1, none⟩ = some (.int .i64 0) := (blk_cell BK.out 1).trans rfl; have hcz2 : w1.cell? ⟨gb, 2, none⟩ = some (.int .i64 0) := (blk_cell BK.out 2).trans rfl; have hcz3 : w1.cell? ⟨gb, 3, none⟩ = some .nilFunc := (blk_cell BK.out 3).trans rfl; have hfz0 := blk_frozen BK.out 0; have hfz1 := blk_frozen BK.out 1; have hfz2 := blk_frozen BK.out 2; have hfz3 := blk_frozen BK.out 3))
      go_roundg 34
      case measure => have := HN.out; omega
      case rel => exact ⟨24, rfl, ⟨by omega⟩, ⟨(obj_far (obj_far (obj_far (obj_far HM.out NB.out) NB.out) NB.out) NB.out)⟩, ⟨below_set (below_set (below_set (below_set HB.out GE.out) GE.out) GE.out) GE.out⟩⟩
    · go_wp2_with (first | ((with_reducible refine gate_lookup rfl ?_); refine map_has rfl _ _ rfl hm hk rfl rfl HM.out 5 (.agg #[.func (.func 75) #[] #[], .int .i64 0, .int .i64 0, .func (.func 71) #[] #[]]) (by rfl) ?_) | ((with_reducible refine gate_dst (N := 3) rfl ?_); refine box_event ?hg (N := 3) ?hd (cs := #[.nilFunc, .int .i64 0, .int .i64 0, .nilFunc]) (t := 73) ?hr ?_; (case hd => rfl); (case hg => rfl); (case hr => first | (go_simp; done) | (go_simp; rfl)); intro gb hg w1 hbox hb; have n0 := Aside0.mk (blk_below HM.out hb); have n1 := Aside0.mk (below_step HB.out hb); have n2 := Aside0.mk hbox; have n3 := Aside0.mk (show w.heap.size ≤ gb by rw [hg]; exact below_size HB.out); have n4 := Aside0.mk (show b ≠ gb by rw [hg]; exact Nat.ne_of_lt (blk_lt HM.out)); clear HM HB; have HM := n0; have HB := n1; have BK := n2; have GE := n3; have NB := n4; clear n0 n1 n2 n3 n4 hb hbox hg; have hcz0 : w1.cell? ⟨gb, 0, none⟩ = some .nilFunc := (blk_cell BK.out 0).trans rfl; have hcz1 : w1.cell? ⟨gb, 1, none⟩ = some (.int .i64 0) := (blk_cell BK.out 1).trans rfl; have hcz2 : w1.cell? ⟨gb, 2, none⟩ = some (.int .i64 0) := (blk_cell BK.out 2).trans rfl; have hcz3 : w1.cell? ⟨gb, 3, none⟩ = some .nilFunc := (blk_cell BK.out 3).trans rfl; have hfz0 := blk_frozen BK.out 0; have hfz1 := blk_frozen BK.out 1; have hfz2 := blk_frozen BK.out 2; have hfz3 := blk_frozen BK.out 3))
      go_roundg 33
      case measure => have := HN.out; omega
      case rel => exact ⟨25, rfl, ⟨by omega⟩, ⟨(obj_far (obj_far (obj_far (obj_far HM.out NB.out) NB.out) NB.out) NB.out)⟩, ⟨below_set (below_set (below_set (below_set HB.out GE.out) GE.out) GE.out) GE.out⟩⟩
    · go_wp2_with (first | ((with_reducible refine gate_lookup rfl ?_); refine map_has rfl _ _ rfl hm hk rfl rfl HM.out 6 (.agg #[.func (.func 72) #[] #[], .int .i64 0, .int .i64 2048, .func (.func 76) #[] #[]]) (by rfl) ?_) | ((with_reducible refine gate_dst (N := 3) rfl ?_); refine box_event ?hg (N := 3) ?hd (cs := #[.nilFunc, .int .i64 0, .int .i64 0, .nilFunc]) (t := 73) ?hr ?_; (case hd => rfl); (case hg => rfl); (case hr => first | (go_simp; done) | (go_simp; rfl)); intro gb hg w1 hbox hb; have n0 := Aside0.mk (blk_below HM.out hb); have n1 := Aside0.mk (below_step HB.out hb); have n2 := Aside0.mk hbox; have n3 := Aside0.mk (show w.heap.size ≤ gb by rw [hg]; exact below_size HB.out); have n4 := Aside0.mk (show b ≠ gb by rw [hg]; exact Nat.ne_of_lt (blk_lt HM.out)); clear HM HB; have HM := n0; have HB := n1; have BK := n2; have GE := n3; have NB := n4; clear n0 n1 n2 n3 n4 hb hbox hg; have hcz0 : w1.cell? ⟨gb, 0, none⟩ = some .nilFunc := (blk_cell BK.out 0).trans rfl; have hcz1 : w1.cell? ⟨gb, 1, none⟩ = some (.int .i64 0) := (blk_cell BK.out 1).trans rfl; have hcz2 : w1.cell? ⟨gb, 2, none⟩ = some (.int .i64 0) := (blk_cell BK.out 2).trans rfl; have hcz3 : w1.cell? ⟨gb, 3, none⟩ = some .nilFunc := (blk_cell BK.out 3).trans rfl; have hfz0 := blk_frozen BK.out 0; have hfz1 := blk_frozen BK.out 1; have hfz2 := blk_frozen BK.out 2; have hfz3 := blk_frozen BK.out 3))
      go_roundg 32
      case measure => have := HN.out; omega
      case rel => exact ⟨26, rfl, ⟨by omega⟩, ⟨(obj_far (obj_far (obj_far (obj_far HM.out NB.out) NB.out) NB.out) NB.out)⟩, ⟨below_set (below_set (below_set (below_set HB.out GE.out) GE.out) GE.out) GE.out⟩⟩
    · go_wp2_with (first | ((with_reducible refine gate_lookup rfl ?_); refine map_not rfl _ _ rfl hm hk rfl rfl HM.out _ (form_zero _) (by rfl) ?_) | ((with_reducible refine gate_dst (N := 3) rfl ?_); refine box_event ?hg (N := 3) ?hd (cs := #[.nilFunc, .int .i64 0, .int .i64 0, .nilFunc]) (t := 73) ?hr ?_; (case hd => rfl); (case hg => rfl); (case hr => first | (go_simp; done) | (go_simp; rfl)); intro gb hg w1 hbox hb; have n0 := Aside0.mk (blk_below HM.out hb); have n1 := Aside0.mk (below_step HB.out hb); have n2 := Aside0.mk hbox; have n3 := Aside0.mk (show w.heap.size ≤ gb by rw [hg]; exact below_size HB.out); have n4 := Aside0.mk (show b ≠ gb by rw [hg]; exact Nat.ne_of_lt (blk_lt HM.out)); clear HM HB; have HM := n0; have HB := n1; have BK := n2; have GE := n3; have NB := n4; clear n0 n1 n2 n3 n4 hb hbox hg; have hcz0 : w1.cell? ⟨gb, 0, none⟩ = some .nilFunc := (blk_cell BK.out 0).trans rfl; have hcz1 : w1.cell? ⟨gb, 1, none⟩ = some (.int .i64 0) := (blk_cell BK.out 1).trans rfl; have hcz2 : w1.cell? ⟨gb, 2, none⟩ = some (.int .i64 0) := (blk_cell BK.out 2).trans rfl; have hcz3 : w1.cell? ⟨gb, 3, none⟩ = some .nilFunc := (blk_cell BK.out 3).trans rfl; have hfz0 := blk_frozen BK.out 0; have hfz1 := blk_frozen BK.out 1; have hfz2 := blk_frozen BK.out 2; have hfz3 := blk_frozen BK.out 3) | ((with_reducible refine gate_update rfl ?_); refine map_put rfl _ _ _ (Or.inl rfl) hm hk rfl rfl _ rfl (obj_far (obj_far (obj_far (obj_far HM.out NB.out) NB.out) NB.out) NB.out) (by rfl) ?_; intro w2 hb1 hg1; have HM2 := Aside0.mk hb1; have HB2 := Aside0.mk (RowKit.Below.grown (below_set (below_set (below_set (below_set HB.out GE.out) GE.out) GE.out) GE.out) hg1 (below_size (below_set (below_set (below_set (below_set HB.out GE.out) GE.out) GE.out) GE.out)) (fun k hk => by cases hk; exact GW.out)); clear HM HB hb1 hg1; have HM := HM2; have HB := HB2; clear HM2 HB2))
      go_roundg 31
      case measure => have := HN.out; omega
      case rel => exact ⟨27, rfl, ⟨by omega⟩, ⟨HM.out⟩, HB⟩
    · go_wp2_with (first | ((with_reducible refine gate_lookup rfl ?_); refine map_not rfl _ _ rfl hm hk rfl rfl HM.out _ (form_zero _) (by rfl) ?_) | ((with_reducible refine gate_dst (N := 3) rfl ?_); refine box_event ?hg (N := 3) ?hd (cs := #[.nilFunc, .int .i64 0, .int .i64 0, .nilFunc]) (t := 73) ?hr ?_; (case hd => rfl); (case hg => rfl); (case hr => first | (go_simp; done) | (go_simp; rfl)); intro gb hg w1 hbox hb; have n0 := Aside0.mk (blk_below HM.out hb); have n1 := Aside0.mk (below_step HB.out hb); have n2 := Aside0.mk hbox; have n3 := Aside0.mk (show w.heap.size ≤ gb by rw [hg]; exact below_size HB.out); have n4 := Aside0.mk (show b ≠ gb by rw [hg]; exact Nat.ne_of_lt (blk_lt HM.out)); clear HM HB; have HM := n0; have HB := n1; have BK := n2; have GE := n3; have NB := n4; clear n0 n1 n2 n3 n4 hb hbox hg; have hcz0 : w1.cell? ⟨gb, 0, none⟩ = some .nilFunc := (blk_cell BK.out 0).trans rfl; have hcz1 : w1.cell? ⟨gb, 1, none⟩ = some (.int .i64 0) := (blk_cell BK.out 1).trans rfl; have hcz2 : w1.cell? ⟨gb, 2, none⟩ = some (.int .i64 0) := (blk_cell BK.out 2).trans rfl; have hcz3 : w1.cell? ⟨gb, 3, none⟩ = some .nilFunc := (blk_cell BK.out 3).trans rfl; have hfz0 := blk_frozen BK.out 0; have hfz1 := blk_frozen BK.out 1; have hfz2 := blk_frozen BK.out 2; have hfz3 := blk_frozen BK.out 3))
      go_roundg 30
      case measure => have := HN.out; omega
      case rel => exact ⟨28, rfl, ⟨by omega⟩, ⟨(obj_far (obj_far (obj_far (obj_far HM.out NB.out) NB.out) NB.out) NB.out)⟩, ⟨below_set (below_set (below_set (below_set HB.out GE.out) GE.out) GE.out) GE.out⟩⟩
    · go_wp2_with (first | ((with_reducible refine gate_lookup rfl ?_); refine map_not rfl _ _ rfl hm hk rfl rfl HM.out _ (form_zero _) (by rfl) ?_) | ((with_reducible refine gate_dst (N := 3) rfl ?_); refine box_event ?hg (N := 3) ?hd (cs := #[.nilFunc, .int .i64 0, .int .i64 0, .nilFunc]) (t := 73) ?hr ?_; (case hd => rfl); (case hg => rfl); (case hr => first | (go_simp; done) | (go_simp; rfl)); intro gb hg w1 hbox hb; have n0 := Aside0.mk (blk_below HM.out hb); have n1 := Aside0.mk (below_step HB.out hb); have n2 := Aside0.mk hbox; have n3 := Aside0.mk (show w.heap.size ≤ gb by rw [hg]; exact below_size HB.out); have n4 := Aside0.mk (show b ≠ gb by rw [hg]; exact Nat.ne_of_lt (blk_lt HM.out)); clear HM HB; have HM := n0; have HB := n1; have BK := n2; have GE := n3; have NB := n4; clear n0 n1 n2 n3 n4 hb hbox hg; have hcz0 : w1.cell? ⟨gb, 0, none⟩ = some .nilFunc := (blk_cell BK.out 0).trans rfl; have hcz1 : w1.cell? ⟨gb, 1, none⟩ = some (.int .i64 0) := (blk_cell BK.out 1).trans rfl; have hcz2 : w1.cell? ⟨gb, 2, none⟩ = some (.int .i64 0) := (blk_cell BK.out 2).trans rfl; have hcz3 : w1.cell? ⟨gb, 3, none⟩ = some .nilFunc := (blk_cell BK.out 3).trans rfl; have hfz0 := blk_frozen BK.out 0; have hfz1 := blk_frozen BK.out 1; have hfz2 := blk_frozen BK.out 2; have hfz3 := blk_frozen BK.out 3))
      go_roundg 29
      case measure => have := HN.out; omega
      case rel => exact ⟨29, rfl, ⟨by omega⟩, ⟨(obj_far (obj_far (obj_far (obj_far HM.out NB.out) NB.out) NB.out) NB.out)⟩, ⟨below_set (below_set (below_set (below_set HB.out GE.out) GE.out) GE.out) GE.out⟩⟩
    · go_wp2_with (first | ((with_reducible refine gate_lookup rfl ?_); refine map_not rfl _ _ rfl hm hk rfl rfl HM.out _ (form_zero _) (by rfl) ?_) | ((with_reducible refine gate_dst (N := 3) rfl ?_); refine box_event ?hg (N := 3) ?hd (cs := #[.nilFunc, .int .i64 0, .int .i64 0, .nilFunc]) (t := 73) ?hr ?_; (case hd => rfl); (case hg => rfl); (case hr => first | (go_simp; done) | (go_simp; rfl)); intro gb hg w1 hbox hb; have n0 := Aside0.mk (blk_below HM.out hb); have n1 := Aside0.mk (below_step HB.out hb); have n2 := Aside0.mk hbox; have n3 := Aside0.mk (show w.heap.size ≤ gb by rw [hg]; exact below_size HB.out); have n4 := Aside0.mk (show b ≠ gb by rw [hg]; exact Nat.ne_of_lt (blk_lt HM.out)); clear HM HB; have HM := n0; have HB := n1; have BK := n2; have GE := n3; have NB := n4; clear n0 n1 n2 n3 n4 hb hbox hg; have hcz0 : w1.cell? ⟨gb, 0, none⟩ = some .nilFunc := (blk_cell BK.out 0).trans rfl; have hcz1 : w1.cell? ⟨gb, 1, none⟩ = some (.int .i64 0) := (blk_cell BK.out 1).trans rfl; have hcz2 : w1.cell? ⟨gb, 2, none⟩ = some (.int .i64 0) := (blk_cell BK.out 2).trans rfl; have hcz3 : w1.cell? ⟨gb, 3, none⟩ = some .nilFunc := (blk_cell BK.out 3).trans rfl; have hfz0 := blk_frozen BK.out 0; have hfz1 := blk_frozen BK.out 1; have hfz2 := blk_frozen BK.out 2; have hfz3 := blk_frozen BK.out 3))
      go_roundg 28
      case measure => have := HN.out; omega
      case rel => exact ⟨30, rfl, ⟨by omega⟩, ⟨(obj_far (obj_far (obj_far (obj_far HM.out NB.out) NB.out) NB.out) NB.out)⟩, ⟨below_set (below_set (below_set (below_set HB.out GE.out) GE.out) GE.out) GE.out⟩⟩
    · go_wp2_with (first | ((with_reducible refine gate_lookup rfl ?_); refine map_not rfl _ _ rfl hm hk rfl rfl HM.out _ (form_zero _) (by rfl) ?_) | ((with_reducible refine gate_dst (N := 3) rfl ?_); refine box_event ?hg (N := 3) ?hd (cs := #[.nilFunc, .int .i64 0, .int .i64 0, .nilFunc]) (t := 73) ?hr ?_; (case hd => rfl); (case hg => rfl); (case hr => first | (go_simp; done) | (go_simp; rfl)); intro gb hg w1 hbox hb; have n0 := Aside0.mk (blk_below HM.out hb); have n1 := Aside0.mk (below_step HB.out hb); have n2 := Aside0.mk hbox; have n3 := Aside0.mk (show w.heap.size ≤ gb by rw [hg]; exact below_size HB.out); have n4 := Aside0.mk (show b ≠ gb by rw [hg]; exact Nat.ne_of_lt (blk_lt HM.out)); clear HM HB; have HM := n0; have HB := n1; have BK := n2; have GE := n3; have NB := n4; clear n0 n1 n2 n3 n4 hb hbox hg; have hcz0 : w1.cell? ⟨gb, 0, none⟩ = some .nilFunc := (blk_cell BK.out 0).trans rfl; have hcz1 : w1.cell? ⟨gb, 1, none⟩ = some (.int .i64 0) := (blk_cell BK.out 1).trans rfl; have hcz2 : w1.cell? ⟨gb, 2, none⟩ = some (.int .i64 0) := (blk_cell BK.out 2).trans rfl; have hcz3 : w1.cell? ⟨gb, 3, none⟩ = some .nilFunc := (blk_cell BK.out 3).trans rfl; have hfz0 := blk_frozen BK.out 0; have hfz1 := blk_frozen BK.out 1; have hfz2 := blk_frozen BK.out 2; have hfz3 := blk_frozen BK.out 3) | ((with_reducible refine gate_update rfl ?_); refine map_put rfl _ _ _ (Or.inl rfl) hm hk rfl rfl _ rfl (obj_far (obj_far (obj_far (obj_far HM.out NB.out) NB.out) NB.out) NB.out) (by rfl) ?_; intro w2 hb1 hg1; have HM2 := Aside0.mk hb1; have HB2 := Aside0.mk (RowKit.Below.grown (below_set (below_set (below_set (below_set HB.out GE.out) GE.out) GE.out) GE.out) hg1 (below_size (below_set (below_set (below_set (below_set HB.out GE.out) GE.out) GE.out) GE.out)) (fun k hk => by cases hk; exact GW.out)); clear HM HB hb1 hg1; have HM := HM2; have HB := HB2; clear HM2 HB2))
      go_roundg 27
      case measure => have := HN.out; omega
      case rel => exact ⟨31, rfl, ⟨by omega⟩, ⟨HM.out⟩, HB⟩
    · go_wp2_with (first | ((with_reducible refine gate_lookup rfl ?_); refine map_not rfl _ _ rfl hm hk rfl rfl HM.out _ (form_zero _) (by rfl) ?_) | ((with_reducible refine gate_dst (N := 3) rfl ?_); refine box_event ?hg (N := 3) ?hd (cs := #[.nilFunc, .int .i64 0, .int .i64 0, .nilFunc]) (t := 73) ?hr ?_; (case hd => rfl); (case hg => rfl); (case hr => first | (go_simp; done) | (go_simp; rfl)); intro gb hg w1 hbox hb; have n0 := Aside0.mk (blk_below HM.out hb); have n1 := Aside0.mk (below_step HB.out hb); have n2 := Aside0.mk hbox; have n3 := Aside0.mk (show w.heap.size ≤ gb by rw [hg]; exact below_size HB.out); have n4 := Aside0.mk (show b ≠ gb by rw [hg]; exact Nat.ne_of_lt (blk_lt HM.out)); clear HM HB; have HM := n0; have HB := n1; have BK := n2; have GE := n3; have NB := n4; clear n0 n1 n2 n3 n4 hb hbox hg; have hcz0 : w1.cell? ⟨gb, 0, none⟩ = some .nilFunc := (blk_cell BK.out 0).trans rfl; have hcz1 : w1.cell? ⟨gb, 1, none⟩ = some (.int .i64 0) := (blk_cell BK.out 1).trans rfl; have hcz2 : w1.cell? ⟨gb, 2, none⟩ = some (.int .i64 0) := (blk_cell BK.out 2).trans rfl; have hcz3 : w1.cell? ⟨gb, 3, none⟩ = some .nilFunc := (blk_cell BK.out 3).trans rfl; have hfz0 := blk_frozen BK.out 0; have hfz1 := blk_frozen BK.out 1; have hfz2 := blk_frozen BK.out 2; have hfz3 := blk_frozen BK.out 3) | ((with_reducible refine gate_update rfl ?_); refine map_put rfl _ _ _ (Or.inl rfl) hm hk rfl rfl _ rfl (obj_far (obj_far (obj_far (obj_far HM.out NB.out) NB.out) NB.out) NB.out) (by rfl) ?_; intro w2 hb1 hg1; have HM2 := Aside0.mk hb1; have HB2 := Aside0.mk (RowKit.Below.grown (below_set (below_set (below_set (below_set HB.out GE.out) GE.out) GE.out) GE.out) hg1 (below_size (below_set (below_set (below_set (below_set HB.out GE.out) GE.out) GE.out) GE.out)) (fun k hk => by cases hk; exact GW.out)); clear HM HB hb1 hg1; have HM := HM2; have HB := HB2; clear HM2 HB2))
      go_roundg 26
      case measure => have := HN.out; omega
      case rel => exact ⟨32, rfl, ⟨by omega⟩, ⟨HM.out⟩, HB⟩
    · go_wp2_with (first | ((with_reducible refine gate_lookup rfl ?_); refine map_not rfl _ _ rfl hm hk rfl rfl HM.out _ (form_zero _) (by rfl) ?_) | ((with_reducible refine gate_dst (N := 3) rfl ?_); refine box_event ?hg (N := 3) ?hd (cs := #[.nilFunc, .int .i64 0, .int .i64 0, .nilFunc]) (t := 73) ?hr ?_; (case hd => rfl); (case hg => rfl); (case hr => first | (go_simp; done) | (go_simp; rfl)); intro gb hg w1 hbox hb; have n0 := Aside0.mk (blk_below HM.out hb); have n1 := Aside0.mk (below_step HB.out hb); have n2 := Aside0.mk hbox; have n3 := Aside0.mk (show w.heap.size ≤ gb by rw [hg]; exact below_size HB.out); have n4 := Aside0.mk (show b ≠ gb by rw [hg]; exact Nat.ne_of_lt (blk_lt HM.out)); clear HM HB; have HM := n0; have HB := n1; have BK := n2; have GE := n3; have NB := n4; clear n0 n1 n2 n3 n4 hb hbox hg; have hcz0 : w1.cell? ⟨gb, 0, none⟩ = some .nilFunc := (blk_cell BK.out 0).trans rfl; have hcz1 : w1.cell? ⟨gb, 1, none⟩ = some (.int .i64 0) := (blk_cell BK.out 1).trans rfl; have hcz2 : w1.cell? ⟨gb, 2, none⟩ = some (.int .i64 0) := (blk_cell BK.out 2).trans rfl; have hcz3 : w1.cell? ⟨gb, 3, none⟩ = some .nilFunc := (blk_cell BK.out 3).trans rfl; have hfz0 := blk_frozen BK.out 0; have hfz1 := blk_frozen BK.out 1; have hfz2 := blk_frozen BK.out 2; have hfz3 := blk_frozen BK.out 3) | ((with_reducible refine gate_update rfl ?_); refine map_put rfl _ _ _ (Or.inl rfl) hm hk rfl rfl _ rfl (obj_far (obj_far (obj_far (obj_far HM.out NB.out) NB.out) NB.out) NB.out) (by rfl) ?_; intro w2 hb1 hg1; have HM2 := Aside0.mk hb1; have HB2 := Aside0.mk (RowKit.Below.grown (below_set (below_set (below_set (below_set HB.out GE.out) GE.out) GE.out) GE.out) hg1 (below_size (below_set (below_set (below_set (below_set HB.out GE.out) GE.out) GE.out) GE.out)) (fun k hk => by cases hk; exact GW.out)); clear HM HB hb1 hg1; have HM := HM2; have HB := HB2; clear HM2 HB2))
      go_roundg 25
      case measure => have := HN.out; omega
      case rel => exact ⟨33, rfl, ⟨by omega⟩, ⟨HM.out⟩, HB⟩
    · go_wp2_with (first | ((with_reducible refine gate_lookup rfl ?_); refine map_not rfl _ _ rfl hm hk rfl rfl HM.out _ (form_zero _) (by rfl) ?_) | ((with_reducible refine gate_dst (N := 3) rfl ?_); refine box_event ?hg (N := 3) ?hd (cs := #[.nilFunc, .int .i64 0, .int .i64 0, .nilFunc]) (t := 73) ?hr ?_; (case hd => rfl); (case hg => rfl); (case hr => first | (go_simp; done) | (go_simp; rfl)); intro gb hg w1 hbox hb; have n0 := Aside0.mk (blk_below HM.out hb); have n1 := Aside0.mk (below_step HB.out hb); have n2 := Aside0.mk hbox; have n3 := Aside0.mk (show w.heap.size ≤ gb by rw [hg]; exact below_size HB.out); have n4 := Aside0.mk (show b ≠ gb by rw [hg]; exact Nat.ne_of_lt (blk_lt HM.out)); clear HM HB; have HM := n0; have HB := n1; have BK := n2; have GE := n3; have NB := n4; clear n0 n1 n2 n3 n4 hb hbox hg; have hcz0 : w1.cell? ⟨gb, 0, none⟩ = some .nilFunc := (blk_cell BK.out 0).trans rfl; have hcz1 : w1.cell? ⟨gb, 1, none⟩ = some (.int .i64 0) := (blk_cell BK.out 1).trans rfl; have hcz2 : w1.cell? ⟨gb, 2, none⟩ = some (.int .i64 0) := (blk_cell BK.out 2).trans rfl; have hcz3 : w1.cell? ⟨gb, 3, none⟩ = some .nilFunc := (blk_cell BK.out 3).trans rfl; have hfz0 := blk_frozen BK.out 0; have hfz1 := blk_frozen BK.out 1; have hfz2 := blk_frozen BK.out 2; have hfz3 := blk_frozen BK.out 3) | ((with_reducible refine gate_update rfl ?_); refine map_put rfl _ _ _ (Or.inl rfl) hm hk rfl rfl _ rfl (obj_far (obj_far (obj_far (obj_far HM.out NB.out) NB.out) NB.out) NB.out) (by rfl) ?_; intro w2 hb1 hg1; have HM2 := Aside0.mk hb1; have HB2 := Aside0.mk (RowKit.Below.grown (below_set (below_set (below_set (below_set HB.out GE.out) GE.out) GE.out) GE.out) hg1 (below_size (below_set (below_set (below_set (below_set HB.out GE.out) GE.out) GE.out) GE.out)) (fun k hk => by cases hk; exact GW.out)); clear HM HB hb1 hg1; have HM := HM2; have HB := HB2; clear HM2 HB2))
      go_roundg 24
      case measure => have := HN.out; omega
      case rel => exact ⟨34, rfl, ⟨by omega⟩, ⟨HM.out⟩, HB⟩
    · go_wp2_with (first | ((with_reducible refine gate_lookup rfl ?_); refine map_not rfl _ _ rfl hm hk rfl rfl HM.out _ (form_zero _) (by rfl) ?_) | ((with_reducible refine gate_dst (N := 3) rfl ?_); refine box_event ?hg (N := 3) ?hd (cs := #[.nilFunc, .int .i64 0, .int .i64 0, .nilFunc]) (t := 73) ?hr ?_; (case hd => rfl); (case hg => rfl); (case hr => first | (go_simp; done) | (go_simp; rfl)); intro gb hg w1 hbox hb; have n0 := Aside0.mk (blk_below HM.out hb); have n1 := Aside0.mk (below_step HB.out hb); have n2 := Aside0.mk hbox; have n3 := Aside0.mk (show w.heap.size ≤ gb by rw [hg]; exact below_size HB.out); have n4 := Aside0.mk (show b ≠ gb by rw [hg]; exact Nat.ne_of_lt (blk_lt HM.out)); clear HM HB; have HM := n0; have HB := n1; have BK := n2; have GE := n3; have NB := n4; clear n0 n1 n2 n3 n4 hb hbox hg; have hcz0 : w1.cell? ⟨gb, 0, none⟩ = some .nilFunc := (blk_cell BK.out 0).trans rfl; have hcz1 : w1.cell? ⟨gb, 1, none⟩ = some (.int .i64 0) := (blk_cell BK.out 1).trans rfl; have hcz2 : w1.cell? ⟨gb, 2, none⟩ = some (.int .i64 0) := (blk_cell BK.out 2).trans rfl; have hcz3 : w1.cell? ⟨gb, 3, none⟩ = some .nilFunc := (blk_cell BK.out 3).trans rfl; have hfz0 := blk_frozen BK.out 0; have hfz1 := blk_frozen BK.out 1; have hfz2 := blk_frozen BK.out 2; have hfz3 := blk_frozen BK.out 3) | ((with_reducible refine gate_update rfl ?_); refine map_put rfl _ _ _ (Or.inl rfl) hm hk rfl rfl _ rfl (obj_far (obj_far (obj_far (obj_far HM.out NB.out) NB.out) NB.out) NB.out) (by rfl) ?_; intro w2 hb1 hg1; have HM2 := Aside0.mk hb1; have HB2 := Aside0.mk (RowKit.Below.grown (below_set (below_set (below_set (below_set HB.out GE.out) GE.out) GE.out) GE.out) hg1 (below_size (below_set (below_set (below_set (below_set HB.out GE.out) GE.out) GE.out) GE.out)) (fun k hk => by cases hk; exact GW.out)); clear HM HB hb1 hg1; have HM := HM2; have HB := HB2; clear HM2 HB2))
      go_roundg 23
      case measure => have := HN.out; omega
      case rel => exact ⟨35, rfl, ⟨by omega⟩, ⟨HM.out⟩, HB⟩
    · go_wp2_with (first | ((with_reducible refine gate_lookup rfl ?_); refine map_not rfl _ _ rfl hm hk rfl rfl HM.out _ (form_zero _) (by rfl) ?_) | ((with_reducible refine gate_dst (N := 3) rfl ?_); refine box_event ?hg (N := 3) ?hd (cs := #[.nilFunc, .int .i64 0, .int .i64 0, .nilFunc]) (t := 73) ?hr ?_; (case hd => rfl); (case hg => rfl); (case hr => first | (go_simp; done) | (go_simp; rfl)); intro gb hg w1 hbox hb; have n0 := Aside0.mk (blk_below HM.out hb); have n1 := Aside0.mk (below_step HB.out hb); have n2 := Aside0.mk hbox; have n3 := Aside0.mk (show w.heap.size ≤ gb by rw [hg]; exact below_size HB.out); have n4 := Aside0.mk (show b ≠ gb by rw [hg]; exact Nat.ne_of_lt (blk_lt HM.out)); clear HM HB; have HM := n0; have HB := n1; have BK := n2; have GE := n3; have NB := n4; clear n0 n1 n2 n3 n4 hb hbox hg; have hcz0 : w1.cell? ⟨gb, 0, none⟩ = some .nilFunc := (blk_cell BK.out 0).trans rfl; have hcz1 : w1.cell? ⟨gb, 1, none⟩ = some (.int .i64 0) := (blk_cell BK.out 1).trans rfl; have hcz2 : w1.cell? ⟨gb, 2, none⟩ = some (.int .i64 0) := (blk_cell BK.out 2).trans rfl; have hcz3 : w1.cell? ⟨gb, 3, none⟩ = some .nilFunc := (blk_cell BK.out 3).trans rfl; have hfz0 := blk_frozen BK.out 0; have hfz1 := blk_frozen BK.out 1; have hfz2 := blk_frozen BK.out 2; have hfz3 := blk_frozen BK.out 3) | ((with_reducible refine gate_update rfl ?_); refine map_put rfl _ _ _ (Or.inl rfl) hm hk rfl rfl _ rfl (obj_far (obj_far (obj_far (obj_far HM.out NB.out) NB.out) NB.out) NB.out) (by rfl) ?_; intro w2 hb1 hg1; have HM2 := Aside0.mk hb1; have HB2 := Aside0.mk (RowKit.Below.grown (below_set (below_set (below_set (below_set HB.out GE.out) GE.out) GE.out) GE.out) hg1 (below_size (below_set (below_set (below_set (below_set HB.out GE.out) GE.out) GE.out) GE.out)) (fun k hk => by cases hk; exact GW.out)); clear HM HB hb1 hg1; have HM := HM2; have HB := HB2; clear HM2 HB2))
      go_roundg 22
      case measure => have := HN.out; omega
      case rel => exact ⟨36, rfl, ⟨by omega⟩, ⟨HM.out⟩, HB⟩
    · go_wp2_with (first | ((with_reducible refine gate_lookup rfl ?_); refine map_not rfl _ _ rfl hm hk rfl rfl HM.out _ (form_zero _) (by rfl) ?_) | ((with_reducible refine gate_dst (N := 3) rfl ?_); refine box_event ?hg (N := 3) ?hd (cs := #[.nilFunc, .int .i64 0, .int .i64 0, .nilFunc]) (t := 73) ?hr ?_; (case hd => rfl); (case hg => rfl); (case hr => first | (go_simp; done) | (go_simp; rfl)); intro gb hg w1 hbox hb; have n0 := Aside0.mk (blk_below HM.out hb); have n1 := Aside0.mk (below_step HB.out hb); have n2 := Aside0.mk hbox; have n3 := Aside0.mk (show w.heap.size ≤ gb by rw [hg]; exact below_size HB.out); have n4 := Aside0.mk (show b ≠ gb by rw [hg]; exact Nat.ne_of_lt (blk_lt HM.out)); clear HM HB; have HM := n0; have HB := n1; have BK := n2; have GE := n3; have NB := n4; clear n0 n1 n2 n3 n4 hb hbox hg; have hcz0 : w1.cell? ⟨gb, 0, none⟩ = some .nilFunc := (blk_cell BK.out 0).trans rfl; have hcz1 : w1.cell? ⟨gb, 1, none⟩ = some (.int .i64 0) := (blk_cell BK.out 1).trans rfl; have hcz2 : w1.cell? ⟨gb, 2, none⟩ = some (.int .i64 0) := (blk_cell BK.out 2).trans rfl; have hcz3 : w1.cell? ⟨gb, 3, none⟩ = some .nilFunc := (blk_cell BK.out 3).trans rfl; have hfz0 := blk_frozen BK.out 0; have hfz1 := blk_frozen BK.out 1; have hfz2 := blk_frozen BK.out 2; have hfz3 := blk_frozen BK.out 3) | ((with_reducible refine gate_update rfl ?_); refine map_put rfl _ _ _ (Or.inl rfl) hm hk rfl rfl _ rfl (obj_far (obj_far (obj_far (obj_far HM.out NB.out) NB.out) NB.out) NB.out) (by rfl) ?_; intro w2 hb1 hg1; have HM2 := Aside0.mk hb1; have HB2 := Aside0.mk (RowKit.Below.grown (below_set (below_set (below_set (below_set HB.out GE.out) GE.out) GE.out) GE.out) hg1 (below_size (below_set (below_set (below_set (below_set HB.out GE.out) GE.out) GE.out) GE.out)) (fun k hk => by cases hk; exact GW.out)); clear HM HB hb1 hg1; have HM := HM2; have HB := HB2; clear HM2 HB2))
      go_roundg 21
      case measure => have := HN.out; omega
      case rel => exact ⟨37, rfl, ⟨by omega⟩, ⟨HM.out⟩, HB⟩
    · go_wp2_with (first | ((with_reducible refine gate_lookup rfl ?_); refine map_not rfl _ _ rfl hm hk rfl rfl HM.out _ (form_zero _) (by rfl) ?_) | ((with_reducible refine gate_dst (N := 3) rfl ?_); refine box_event ?hg (N := 3) ?hd (cs := #[.nilFunc, .int .i64 0, .int .i64 0, .nilFunc]) (t := 73) ?hr ?_; (case hd => rfl); (case hg => rfl); (case hr => first | (go_simp; done) | (go_simp; rfl)); intro gb hg w1 hbox hb; have n0 := Aside0.mk (blk_below HM.out hb); have n1 := Aside0.mk (below_step HB.out hb); have n2 := Aside0.mk hbox; have n3 := Aside0.mk (show w.heap.size ≤ gb by rw [hg]; exact below_size HB.out); have n4 := Aside0.mk (show b ≠ gb by rw [hg]; exact Nat.ne_of_lt (blk_lt HM.out)); clear HM HB; have HM := n0; have HB := n1; have BK := n2; have GE := n3; have NB := n4; clear n0 n1 n2 n3 n4 hb hbox hg; have hcz0 : w1.cell? ⟨gb, 0, none⟩ = some .nilFunc := (blk_cell BK.out 0).trans rfl; have hcz1 : w1.cell? ⟨gb, 1, none⟩ = some (.int .i64 0) := (blk_cell BK.out 1).trans rfl; have hcz2 : w1.cell? ⟨gb, 2, none⟩ = some (.int .i64 0) := (blk_cell BK.out 2).trans rfl; have hcz3 : w1.cell? ⟨gb, 3, none⟩ = some .nilFunc := (blk_cell BK.out 3).trans rfl; have hfz0 := blk_frozen BK.out 0; have hfz1 := blk_frozen BK.out 1; have hfz2 := blk_frozen BK.out 2; have hfz3 := blk_frozen BK.out 3) | ((with_reducible refine gate_update rfl ?_); refine map_put rfl _ _ _ (Or.inl rfl) hm hk rfl rfl _ rfl (obj_far (obj_far (obj_far (obj_far HM.out NB.out) NB.out) NB.out) NB.out) (by rfl) ?_; intro w2 hb1 hg1; have HM2 := Aside0.mk hb1; have HB2 := Aside0.mk (RowKit.Below.grown (below_set (below_set (below_set (below_set HB.out GE.out) GE.out) GE.out) GE.out) hg1 (below_size (below_set (below_set (below_set (below_set HB.out GE.out) GE.out) GE.out) GE.out)) (fun k hk => by cases hk; exact GW.out)); clear HM HB hb1 hg1; have HM := HM2; have HB := HB2; clear HM2 HB2))
      go_roundg 20
      case measure => have := HN.out; omega
      case rel => exact ⟨38, rfl, ⟨by omega⟩, ⟨HM.out⟩, HB⟩
    · go_wp2_with (first | ((with_reducible refine gate_lookup rfl ?_); refine map_not rfl _ _ rfl hm hk rfl rfl HM.out _ (form_zero _) (by rfl) ?_) | ((with_reducible refine gate_dst (N := 3) rfl ?_); refine box_event ?hg (N := 3) ?hd (cs := #[.nilFunc, .int .i64 0, .int .i64 0, .nilFunc]) (t := 73) ?hr ?_; (case hd => rfl); (case hg => rfl); (case hr => first | (go_simp; done) | (go_simp; rfl)); intro gb hg w1 hbox hb; have n0 := Aside0.mk (blk_below HM.out hb); have n1 := Aside0.mk (below_step HB.out hb); have n2 := Aside0.mk hbox; have n3 := Aside0.mk (show w.heap.size ≤ gb by rw [hg]; exact below_size HB.out); have n4 := Aside0.mk (show b ≠ gb by rw [hg]; exact Nat.ne_of_lt (blk_lt HM.out)); clear HM HB; have HM := n0; have HB := n1; have BK := n2; have GE := n3; have NB := n4; clear n0 n1 n2 n3 n4 hb hbox hg; have hcz0 : w1.cell? ⟨gb, 0, none⟩ = some .nilFunc := (blk_cell BK.out 0).trans rfl; have hcz1 : w1.cell? ⟨gb, 1, none⟩ = some (.int .i64 0) := (blk_cell BK.out 1).trans rfl; have hcz2 : w1.cell? ⟨gb, 2, none⟩ = some (.int .i64 0) := (blk_cell BK.out 2).trans rfl; have hcz3 : w1.cell? ⟨gb, 3, none⟩ = some .nilFunc := (blk_cell BK.out 3).trans rfl; have hfz0 := blk_frozen BK.out 0; have hfz1 := blk_frozen BK.out 1; have hfz2 := blk_frozen BK.out 2; have hfz3 := blk_frozen BK.out 3) | ((with_reducible refine gate_update rfl ?_); refine map_put rfl _ _ _ (Or.inl rfl) hm hk rfl rfl _ rfl (obj_far (obj_far (obj_far (obj_far HM.out NB.out) NB.out) NB.out) NB.out) (by rfl) ?_; intro w2 hb1 hg1; have HM2 := Aside0.mk hb1; have HB2 := Aside0.mk (RowKit.Below.grown (below_set (below_set (below_set (below_set HB.out GE.out) GE.out) GE.out) GE.out) hg1 (below_size (below_set (below_set (below_set (below_set HB.out GE.out) GE.out) GE.out) GE.out)) (fun k hk => by cases hk; exact GW.out)); clear HM HB hb1 hg1; have HM := HM2; have HB := HB2; clear HM2 HB2))
      go_roundg 19
      case measure => have := HN.out; omega
      case rel => exact ⟨39, rfl, ⟨by omega⟩, ⟨HM.out⟩, HB⟩
    · go_wp2_with (first | ((with_reducible refine gate_lookup rfl ?_); refine map_not rfl _ _ rfl hm hk rfl rfl HM.out _ (form_zero _) (by rfl) ?_) | ((with_reducible refine gate_dst (N := 3) rfl ?_); refine box_event ?hg (N := 3) ?hd (cs := #[.nilFunc, .int .i64 0, .int .i64 0, .nilFunc]) (t := 73) ?hr ?_; (case hd => rfl); (case hg => rfl); (case hr => first | (go_simp; done) | (go_simp; rfl)); intro gb hg w1 hbox hb; have n0 := Aside0.mk (blk_below HM.out hb); have n1 := Aside0.mk (below_step HB.out hb); have n2 := Aside0.mk hbox; have n3 := Aside0.mk (show w.heap.size ≤ gb by rw [hg]; exact below_size HB.out); have n4 := Aside0.mk (show b ≠ gb by rw [hg]; exact Nat.ne_of_lt (blk_lt HM.out)); clear HM HB; have HM := n0; have HB := n1; have BK := n2; have GE := n3; have NB := n4; clear n0 n1 n2 n3 n4 hb hbox hg; have hcz0 : w1.cell? ⟨gb, 0, none⟩ = some .nilFunc := (blk_cell BK.out 0).trans rfl; have hcz1 : w1.cell? ⟨gb, 1, none⟩ = some (.int .i64 0) := (blk_cell BK.out 1).trans rfl; have hcz2 : w1.cell? ⟨gb, 2, none⟩ = some (.int .i64 0) := (blk_cell BK.out 2).trans rfl; have hcz3 : w1.cell? ⟨gb, 3, none⟩ = some .nilFunc := (blk_cell BK.out 3).trans rfl; have hfz0 := blk_frozen BK.out 0; have hfz1 := blk_frozen BK.out 1; have hfz2 := blk_frozen BK.out 2; have hfz3 := blk_frozen BK.out 3) | ((with_reducible refine gate_update rfl ?_); refine map_put rfl _ _ _ (Or.inl rfl) hm hk rfl rfl _ rfl (obj_far (obj_far (obj_far (obj_far HM.out NB.out) NB.out) NB.out) NB.out) (by rfl) ?_; intro w2 hb1 hg1; have HM2 := Aside0.mk hb1; have HB2 := Aside0.mk (RowKit.Below.grown (below_set (below_set (below_set (below_set HB.out GE.out) GE.out) GE.out) GE.out) hg1 (below_size (below_set (below_set (below_set (below_set HB.out GE.out) GE.out) GE.out) GE.out)) (fun k hk => by cases hk; exact GW.out)); clear HM HB hb1 hg1; have HM := HM2; have HB := HB2; clear HM2 HB2))
      go_roundg 18
      case measure => have := HN.out; omega
      case rel => exact ⟨40, rfl, ⟨by omega⟩, ⟨HM.out⟩, HB⟩
    · go_wp2_with (first | ((with_reducible refine gate_lookup rfl ?_); refine map_not rfl _ _ rfl hm hk rfl rfl HM.out _ (form_zero _) (by rfl) ?_) | ((with_reducible refine gate_dst (N := 3) rfl ?_); refine box_event ?hg (N := 3) ?hd (cs := #[.nilFunc, .int .i64 0, .int .i64 0, .nilFunc]) (t := 73) ?hr ?_; (case hd => rfl); (case hg => rfl); (case hr => first | (go_simp; done) | (go_simp; rfl)); intro gb hg w1 hbox hb; have n0 := Aside0.mk (blk_below HM.out hb); have n1 := Aside0.mk (below_step HB.out hb); have n2 := Aside0.mk hbox; have n3 := Aside0.mk (show w.heap.size ≤ gb by rw [hg]; exact below_size HB.out); have n4 := Aside0.mk (show b ≠ gb by rw [hg]; exact Nat.ne_of_lt (blk_lt HM.out)); clear HM HB; have HM := n0; have HB := n1; have BK := n2; have GE := n3; have NB := n4; clear n0 n1 n2 n3 n4 hb hbox hg; have hcz0 : w1.cell? ⟨gb, 0, none⟩ = some .nilFunc := (blk_cell BK.out 0).trans rfl; have hcz1 : w1.cell? ⟨gb, 1, none⟩ = some (.int .i64 0) := (blk_cell BK.out 1).trans rfl; have hcz2 : w1.cell? ⟨gb, 2, none⟩ = some (.int .i64 0) := (blk_cell BK.out 2).trans rfl; have hcz3 : w1.cell? ⟨gb, 3, none⟩ = some .nilFunc := (blk_cell BK.out 3).trans rfl; have hfz0 := blk_frozen BK.out 0; have hfz1 := blk_frozen BK.out 1; have hfz2 := blk_frozen BK.out 2; have hfz3 := blk_frozen BK.out 3) | ((with_reducible refine gate_update rfl ?_); refine map_put rfl _ _ _ (Or.inl rfl) hm hk rfl rfl _ rfl (obj_far (obj_far (obj_far (obj_far HM.out NB.out) NB.out) NB.out) NB.out) (by rfl) ?_; intro w2 hb1 hg1; have HM2 := Aside0.mk hb1; have HB2 := Aside0.mk (RowKit.Below.grown (below_set (below_set (below_set (below_set HB.out GE.out) GE.out) GE.out) GE.out) hg1 (below_size (below_set (below_set (below_set (below_set HB.out GE.out) GE.out) GE.out) GE.out)) (fun k hk => by cases hk; exact GW.out)); clear HM HB hb1 hg1; have HM := HM2; have HB := HB2; clear HM2 HB2))
      go_roundg 17
      case measure => have := HN.out; omega
      case rel => exact ⟨41, rfl, ⟨by omega⟩, ⟨HM.out⟩, HB⟩
    · go_wp2_with (first | ((with_reducible refine gate_lookup rfl ?_); refine map_not rfl _ _ rfl hm hk rfl rfl HM.out _ (form_zero _) (by rfl) ?_) | ((with_reducible refine gate_dst (N := 3) rfl ?_); refine box_event ?hg (N := 3) ?hd (cs := #[.nilFunc, .int .i64 0, .int .i64 0, .nilFunc]) (t := 73) ?hr ?_; (case hd => rfl); (case hg => rfl); (case hr => first | (go_simp; done) | (go_simp; rfl)); intro gb hg w1 hbox hb; have n0 := Aside0.mk (blk_below HM.out hb); have n1 := Aside0.mk (below_step HB.out hb); have n2 := Aside0.mk hbox; have n3 := Aside0.mk (show w.heap.size ≤ gb by rw [hg]; exact below_size HB.out); have n4 := Aside0.mk (show b ≠ gb by rw [hg]; exact Nat.ne_of_lt (blk_lt HM.out)); clear HM HB; have HM := n0; have HB := n1; have BK := n2; have GE := n3; have NB := n4; clear n0 n1 n2 n3 n4 hb hbox hg; have hcz0 : w1.cell? ⟨gb, 0, none⟩ = some .nilFunc := (blk_cell BK.out 0).trans rfl; have hcz1 : w1.cell? ⟨gb, 1, none⟩ = some (.int .i64 0) := (blk_cell BK.out 1).trans rfl; have hcz2 : w1.cell? ⟨gb, 2, none⟩ = some (.int .i64 0) := (blk_cell BK.out 2).trans rfl; have hcz3 : w1.cell? ⟨gb, 3, none⟩ = some .nilFunc := (blk_cell BK.out 3).trans rfl; have hfz0 := blk_frozen BK.out 0; have hfz1 := blk_frozen BK.out 1; have hfz2 := blk_frozen BK.out 2; have hfz3 := blk_frozen BK.out 3) | ((with_reducible refine gate_update rfl ?_); refine map_put rfl _ _ _ (Or.inl rfl) hm hk rfl rfl _ rfl (obj_far (obj_far (obj_far (obj_far HM.out NB.out) NB.out) NB.out) NB.out) (by rfl) ?_; intro w2 hb1 hg1; have HM2 := Aside0.mk hb1; have HB2 := Aside0.mk (RowKit.Below.grown (below_set (below_set (below_set (below_set HB.out GE.out) GE.out) GE.out) GE.out) hg1 (below_size (below_set (below_set (below_set (below_set HB.out GE.out) GE.out) GE.out) GE.out)) (fun k hk => by cases hk; exact GW.out)); clear HM HB hb1 hg1; have HM := HM2; have HB := HB2; clear HM2 HB2))
      go_roundg 16
      case measure => have := HN.out; omega
      case rel => exact ⟨42, rfl, ⟨by omega⟩, ⟨HM.out⟩, HB⟩
    · go_wp2_with (first | ((with_reducible refine gate_lookup rfl ?_); refine map_not rfl _ _ rfl hm hk rfl rfl HM.out _ (form_zero _) (by rfl) ?_) | ((with_reducible refine gate_dst (N := 3) rfl ?_); refine box_event ?hg (N := 3) ?hd (cs := #[.nilFunc, .int .i64 0, .int .i64 0, .nilFunc]) (t := 73) ?hr ?_; (case hd => rfl); (case hg => rfl); (case hr => first | (go_simp; done) | (go_simp; rfl)); intro gb hg w1 hbox hb; have n0 := Aside0.mk (blk_below HM.out hb); have n1 := Aside0.mk (below_step HB.out hb); have n2 := Aside0.mk hbox; have n3 := Aside0.mk (show w.heap.size ≤ gb by rw [hg]; exact below_size HB.out); have n4 := Aside0.mk (show b ≠ gb by rw [hg]; exact Nat.ne_of_lt (blk_lt HM.out)); clear HM HB; have HM := n0; have HB := n1; have BK := n2; have GE := n3; have NB := n4; clear n0 n1 n2 n3 n4 hb hbox hg; have hcz0 : w1.cell? ⟨gb, 0, none⟩ = some .nilFunc := (blk_cell BK.out 0).trans rfl; have hcz1 : w1.cell? ⟨gb, 1, none⟩ = some (.int .i64 0) := (blk_cell BK.out 1).trans rfl; have hcz2 : w1.cell? ⟨gb, 2, none⟩ = some (.int .i64 0) := (blk_cell BK.out 2).trans rfl; have hcz3 : w1.cell? ⟨gb, 3, none⟩ = some .nilFunc := (blk_cell BK.out 3).trans rfl; have hfz0 := blk_frozen BK.out 0; have hfz1 := blk_frozen BK.out 1; have hfz2 := blk_frozen BK.out 2; have hfz3 := blk_frozen BK.out 3) | ((with_reducible refine gate_update rfl ?_); refine map_put rfl _ _ _ (Or.inl rfl) hm hk rfl rfl _ rfl (obj_far (obj_far (obj_far (obj_far HM.out NB.out) NB.out) NB.out) NB.out) (by rfl) ?_; intro w2 hb1 hg1; have HM2 := Aside0.mk hb1; have HB2 := Aside0.mk (RowKit.Below.grown (below_set (below_set (below_set (below_set HB.out GE.out) GE.out) GE.out) GE.out) hg1 (below_size (below_set (below_set (below_set (below_set HB.out GE.out) GE.out) GE.out) GE.out)) (fun k hk => by cases hk; exact GW.out)); clear HM HB hb1 hg1; have HM := HM2; have HB := HB2; clear HM2 HB2))
      go_roundg 15
      case measure => have := HN.out; omega
      case rel => exact ⟨43, rfl, ⟨by omega⟩, ⟨HM.out⟩, HB⟩
    · go_wp2_with (first | ((with_reducible refine gate_lookup rfl ?_); refine map_not rfl _ _ rfl hm hk rfl rfl HM.out _ (form_zero _) (by rfl) ?_) | ((with_reducible refine gate_dst (N := 3) rfl ?_); refine box_event ?hg (N := 3) ?hd (cs := #[.nilFunc, .int .i64 0, .int .i64 0, .nilFunc]) (t := 73) ?hr ?_; (case hd => rfl); (case hg => rfl); (case hr => first | (go_simp; done) | (go_simp; rfl)); intro gb hg w1 hbox hb; have n0 := Aside0.mk (blk_below HM.out hb); have n1 := Aside0.mk (below_step HB.out hb); have n2 := Aside0.mk hbox; have n3 := Aside0.mk (show w.heap.size ≤ gb by rw [hg]; exact below_size HB.out); have n4 := Aside0.mk (show b ≠ gb by rw [hg]; exact Nat.ne_of_lt (blk_lt HM.out)); clear HM HB; have HM := n0; have HB := n1; have BK := n2; have GE := n3; have NB := n4; clear n0 n1 n2 n3 n4 hb hbox hg; have hcz0 : w1.cell? ⟨gb, 0, none⟩ = some .nilFunc := (blk_cell BK.out 0).trans rfl; have hcz1 : w1.cell? ⟨gb, 1, none⟩ = some (.int .i64 0) := (blk_cell BK.out 1).trans rfl; have hcz2 : w1.cell? ⟨gb, 2, none⟩ = some (.int .i64 0) := (blk_cell BK.out 2).trans rfl; have hcz3 : w1.cell? ⟨gb, 3, none⟩ = some .nilFunc := (blk_cell BK.out 3).trans rfl; have hfz0 := blk_frozen BK.out 0; have hfz1 := blk_frozen BK.out 1; have hfz2 := blk_frozen BK.out 2; have hfz3 := blk_frozen BK.out 3) | ((with_reducible refine gate_update rfl ?_); refine map_put rfl _ _ _ (Or.inl rfl) hm hk rfl rfl _ rfl (obj_far (obj_far (obj_far (obj_far HM.out NB.out) NB.out) NB.out) NB.out) (by rfl) ?_; intro w2 hb1 hg1; have HM2 := Aside0.mk hb1; have HB2 := Aside0.mk (RowKit.Below.grown (below_set (below_set (below_set (below_set HB.out GE.out) GE.out) GE.out) GE.out) hg1 (below_size (below_set (below_set (below_set (below_set HB.out GE.out) GE.out) GE.out) GE.out)) (fun k hk => by cases hk; exact GW.out)); clear HM HB hb1 hg1; have HM := HM2; have HB := HB2; clear HM2 HB2))
      go_roundg 14
      case measure => have := HN.out; omega
      case rel => exact ⟨44, rfl, ⟨by omega⟩, ⟨HM.out⟩, HB⟩
    · go_wp2_with (first | ((with_reducible refine gate_lookup rfl ?_); refine map_not rfl _ _ rfl hm hk rfl rfl HM.out _ (form_zero _) (by rfl) ?_) | ((with_reducible refine gate_dst (N := 3) rfl ?_); refine box_event ?hg (N := 3) ?hd (cs := #[.nilFunc, .int .i64 0, .int .i64 0, .nilFunc]) (t := 73) ?hr ?_; (case hd => rfl); (case hg => rfl); (case hr => first | (go_simp; done) | (go_simp; rfl)); intro gb hg w1 hbox hb; have n0 := Aside0.mk (blk_below HM.out hb); have n1 := Aside0.mk (below_step HB.out hb); have n2 := Aside0.mk hbox; have n3 := Aside0.mk (show w.heap.size ≤ gb by rw [hg]; exact below_size HB.out); have n4 := Aside0.mk (show b ≠ gb by rw [hg]; exact Nat.ne_of_lt (blk_lt HM.out)); clear HM HB; have HM := n0; have HB := n1; have BK := n2; have GE := n3; have NB := n4; clear n0 n1 n2 n3 n4 hb hbox hg; have hcz0 : w1.cell? ⟨gb, 0, none⟩ = some .nilFunc := (blk_cell BK.out 0).trans rfl; have hcz1 : w1.cell? ⟨gb, 1, none⟩ = some (.int .i64 0) := (blk_cell BK.out 1).trans rfl; have hcz2 : w1.cell? ⟨gb, 2, none⟩ = some (.int .i64 0) := (blk_cell BK.out 2).trans rfl; have hcz3 : w1.cell? ⟨gb, 3, none⟩ = some .nilFunc := (blk_cell BK.out 3).trans rfl; have hfz0 := blk_frozen BK.out 0; have hfz1 := blk_frozen BK.out 1; have hfz2 := blk_frozen BK.out 2; have hfz3 := blk_frozen BK.out 3) | ((with_reducible refine gate_update rfl ?_); refine map_put rfl _ _ _ (Or.inl rfl) hm hk rfl rfl _ rfl (obj_far (obj_far (obj_far (obj_far HM.out NB.out) NB.out) NB.out) NB.out) (by rfl) ?_; intro w2 hb1 hg1; have HM2 := Aside0.mk hb1; have HB2 := Aside0.mk (RowKit.Below.grown (below_set (below_set (below_set (below_set HB.out GE.out) GE.out) GE.out) GE.out) hg1 (below_size (below_set (below_set (below_set (below_set HB.out GE.out) GE.out) GE.out) GE.out)) (fun k hk => by cases hk; exact GW.out)); clear HM HB hb1 hg1; have HM := HM2; have HB := HB2; clear HM2 HB2))
      go_roundg 13
      case measure => have := HN.out; omega
      case rel => exact ⟨45, rfl, ⟨by omega⟩, ⟨HM.out⟩, HB⟩
    · go_wp2_with (first | ((with_reducible refine gate_lookup rfl ?_); refine map_not rfl _ _ rfl hm hk rfl rfl HM.out _ (form_zero _) (by rfl) ?_) | ((with_reducible refine gate_dst (N := 3) rfl ?_); refine box_event ?hg (N := 3) ?hd (cs := #[.nilFunc, .int .i64 0, .int .i64 0, .nilFunc]) (t := 73) ?hr ?_; (case hd => rfl); (case hg => rfl); (case hr => first | (go_simp; done) | (go_simp; rfl)); intro gb hg w1 hbox hb; have n0 := Aside0.mk (blk_below HM.out hb); have n1 := Aside0.mk (below_step HB.out hb); have n2 := Aside0.mk hbox; have n3 := Aside0.mk (show w.heap.size ≤ gb by rw [hg]; exact below_size HB.out); have n4 := Aside0.mk (show b ≠ gb by rw [hg]; exact Nat.ne_of_lt (blk_lt HM.out)); clear HM HB; have HM := n0; have HB := n1; have BK := n2; have GE := n3; have NB := n4; clear n0 n1 n2 n3 n4 hb hbox hg; have hcz0 : w1.cell? ⟨gb, 0, none⟩ = some .nilFunc := (blk_cell BK.out 0).trans rfl; have hcz1 : w1.cell? ⟨gb, 1, none⟩ = some (.int .i64 0) := (blk_cell BK.out 1).trans rfl; have hcz2 : w1.cell? ⟨gb, 2, none⟩ = some (.int .i64 0) := (blk_cell BK.out 2).trans rfl; have hcz3 : w1.cell? ⟨gb, 3, none⟩ = some .nilFunc := (blk_cell BK.out 3).trans rfl; have hfz0 := blk_frozen BK.out 0; have hfz1 := blk_frozen BK.out 1; have hfz2 := blk_frozen BK.out 2; have hfz3 := blk_frozen BK.out 3) | ((with_reducible refine gate_update rfl ?_); refine map_put rfl _ _ _ (Or.inl rfl) hm hk rfl rfl _ rfl (obj_far (obj_far (obj_far (obj_far HM.out NB.out) NB.out) NB.out) NB.out) (by rfl) ?_; intro w2 hb1 hg1; have HM2 := Aside0.mk hb1; have HB2 := Aside0.mk (RowKit.Below.grown (below_set (below_set (below_set (below_set HB.out GE.out) GE.out) GE.out) GE.out) hg1 (below_size (below_set (below_set (below_set (below_set HB.out GE.out) GE.out) GE.out) GE.out)) (fun k hk => by cases hk; exact GW.out)); clear HM HB hb1 hg1; have HM := HM2; have HB := HB2; clear HM2 HB2))
      go_roundg 12
      case measure => have := HN.out; omega
      case rel => exact ⟨46, rfl, ⟨by omega⟩, ⟨HM.out⟩, HB⟩
    · go_wp2_with (first | ((with_reducible refine gate_lookup rfl ?_); refine map_not rfl _ _ rfl hm hk rfl rfl HM.out _ (form_zero _) (by rfl) ?_) | ((with_reducible refine gate_dst (N := 3) rfl ?_); refine box_event ?hg (N := 3) ?hd (cs := #[.nilFunc, .int .i64 0, .int .i64 0, .nilFunc]) (t := 73) ?hr ?_; (case hd => rfl); (case hg => rfl); (case hr => first | (go_simp; done) | (go_simp; rfl)); intro gb hg w1 hbox hb; have n0 := Aside0.mk (blk_below HM.out hb); have n1 := Aside0.mk (below_step HB.out hb); have n2 := Aside0.mk hbox; have n3 := Aside0.mk (show w.heap.size ≤ gb by rw [hg]; exact below_size HB.out); have n4 := Aside0.mk (show b ≠ gb by rw [hg]; exact Nat.ne_of_lt (blk_lt HM.out)); clear HM HB; have HM := n0; have HB := n1; have BK := n2; have GE := n3; have NB := n4; clear n0 n1 n2 n3 n4 hb hbox hg; have hcz0 : w1.cell? ⟨gb, 0, none⟩ = some .nilFunc := (blk_cell BK.out 0).trans rfl; have hcz1 : w1.cell? ⟨gb, 1, none⟩ = some (.int .i64 0) := (blk_cell BK.out 1).trans rfl; have hcz2 : w1.cell? ⟨gb, 2, none⟩ = some (.int .i64 0) := (blk_cell BK.out 2).trans rfl; have hcz3 : w1.cell? ⟨gb, 3, none⟩ = some .nilFunc := (blk_cell BK.out 3).trans rfl; have hfz0 := blk_frozen BK.out 0; have hfz1 := blk_frozen BK.out 1; have hfz2 := blk_frozen BK.out 2; have hfz3 := blk_frozen BK.out 3) | ((with_reducible refine gate_update rfl ?_); refine map_put rfl _ _ _ (Or.inl rfl) hm hk rfl rfl _ rfl (obj_far (obj_far (obj_far (obj_far HM.out NB.out) NB.out) NB.out) NB.out) (by rfl) ?_; intro w2 hb1 hg1; have HM2 := Aside0.mk hb1; have HB2 := Aside0.mk (RowKit.Below.grown (below_set (below_set (below_set (below_set HB.out GE.out) GE.out) GE.out) GE.out) hg1 (below_size (below_set (below_set (below_set (below_set HB.out GE.out) GE.out) GE.out) GE.out)) (fun k hk => by cases hk; exact GW.out)); clear HM HB hb1 hg1; have HM := HM2; have HB := HB2; clear HM2 HB2))
      go_roundg 11
      case measure => have := HN.out; omega
      case rel => exact ⟨47, rfl, ⟨by omega⟩, ⟨HM.out⟩, HB⟩
    · go_wp2_with (first | ((with_reducible refine gate_lookup rfl ?_); refine map_not rfl _ _ rfl hm hk rfl rfl HM.out _ (form_zero _) (by rfl) ?_) | ((with_reducible refine gate_dst (N := 3) rfl ?_); refine box_event ?hg (N := 3) ?hd (cs := #[.nilFunc, .int .i64 0, .int .i64 0, .nilFunc]) (t := 73) ?hr ?_; (case hd => rfl); (case hg => rfl); (case hr => first | (go_simp; done) | (go_simp; rfl)); intro gb hg w1 hbox hb; have n0 := Aside0.mk (blk_below HM.out hb); have n1 := Aside0.mk (below_step HB.out hb); have n2 := Aside0.mk hbox; have n3 := Aside0.mk (show w.heap.size ≤ gb by rw [hg]; exact below_size HB.out); have n4 := Aside0.mk (show b ≠ gb by rw [hg]; exact Nat.ne_of_lt (blk_lt HM.out)); clear HM HB; have HM := n0; have HB := n1; have BK := n2; have GE := n3; have NB := n4; clear n0 n1 n2 n3 n4 hb hbox hg; have hcz0 : w1.cell? ⟨gb, 0, none⟩ = some .nilFunc := (blk_cell BK.out 0).trans rfl; have hcz1 : w1.cell? ⟨gb, 1, none⟩ = some (.int .i64 0) := (blk_cell BK.out 1).trans rfl; have hcz2 : w1.cell? ⟨gb, 2, none⟩ = some (.int .i64 0) := (blk_cell BK.out 2).trans rfl; have hcz3 : w1.cell? ⟨gb, 3, none⟩ = some .nilFunc := (blk_cell BK.out 3).trans rfl; have hfz0 := blk_frozen BK.out 0; have hfz1 := blk_frozen BK.out 1; have hfz2 := blk_frozen BK.out 2; have hfz3 := blk_frozen BK.out 3) | ((with_reducible refine gate_update rfl ?_); refine map_put rfl _ _ _ (Or.inl rfl) hm hk rfl rfl _ rfl (obj_far (obj_far (obj_far (obj_far HM.out NB.out) NB.out) NB.out) NB.out) (by rfl) ?_; intro w2 hb1 hg1; have HM2 := Aside0.mk hb1; have HB2 := Aside0.mk (RowKit.Below.grown (below_set (below_set (below_set (below_set HB.out GE.out) GE.out) GE.out) GE.out) hg1 (below_size (below_set (below_set (below_set (below_set HB.out GE.out) GE.out) GE.out) GE.out)) (fun k hk => by cases hk; exact GW.out)); clear HM HB hb1 hg1; have HM := HM2; have HB := HB2; clear HM2 HB2))
      go_roundg 10
      case measure => have := HN.out; omega
      case rel => exact ⟨48, rfl, ⟨by omega⟩, ⟨HM.out⟩, HB⟩
    · go_wp2_with (first | ((with_reducible refine gate_lookup rfl ?_); refine map_not rfl _ _ rfl hm hk rfl rfl HM.out _ (form_zero _) (by rfl) ?_) | ((with_reducible refine gate_dst (N := 3) rfl ?_); refine box_event ?hg (N := 3) ?hd (cs := #[.nilFunc, .int .i64 0, .int .i64 0, .nilFunc]) (t := 73) ?hr ?_; (case hd => rfl); (case hg => rfl); (case hr => first | (go_simp; done) | (go_simp; rfl)); intro gb hg w1 hbox hb; have n0 := Aside0.mk (blk_below HM.out hb); have n1 := Aside0.mk (below_step HB.out hb); have n2 := Aside0.mk hbox; have n3 := Aside0.mk (show w.heap.size ≤ gb by rw [hg]; exact below_size HB.out); have n4 := Aside0.mk (show b ≠ gb by rw [hg]; exact Nat.ne_of_lt (blk_lt HM.out)); clear HM HB; have HM := n0; have HB := n1; have BK := n2; have GE := n3; have NB := n4; clear n0 n1 n2 n3 n4 hb hbox hg; have hcz0 : w1.cell? ⟨gb, 0, none⟩ = some .nilFunc := (blk_cell BK.out 0).trans rfl; have hcz1 : w1.cell? ⟨gb, 1, none⟩ = some (.int .i64 0) := (blk_cell BK.out 1).trans rfl; have hcz2 : w1.cell? ⟨gb, 2, none⟩ = some (.int .i64 0) := (blk_cell BK.out 2).trans rfl; have hcz3 : w1.cell? ⟨gb, 3, none⟩ = some .nilFunc := (blk_cell BK.out 3).trans rfl; have hfz0 := blk_frozen BK.out 0; have hfz1 := blk_frozen BK.out 1; have hfz2 := blk_frozen BK.out 2; have hfz3 := blk_frozen BK.out 3) | ((with_reducible refine gate_update rfl ?_); refine map_put rfl _ _ _ (Or.inl rfl) hm hk rfl rfl _ rfl (obj_far (obj_far (obj_far (obj_far HM.out NB.out) NB.out) NB.out) NB.out) (by rfl) ?_; intro w2 hb1 hg1; have HM2 := Aside0.mk hb1; have HB2 := Aside0.mk (RowKit.Below.grown (below_set (below_set (below_set (below_set HB.out GE.out) GE.out) GE.out) GE.out) hg1 (below_size (below_set (below_set (below_set (below_set HB.out GE.out) GE.out) GE.out) GE.out)) (fun k hk => by cases hk; exact GW.out)); clear HM HB hb1 hg1; have HM := HM2; have HB := HB2; clear HM2 HB2))
      go_roundg 9
      case measure => have := HN.out; omega
      case rel => exact ⟨49, rfl, ⟨by omega⟩, ⟨HM.out⟩, HB⟩
    · go_wp2_with (first | ((with_reducible refine gate_lookup rfl ?_); refine map_not rfl _ _ rfl hm hk rfl rfl HM.out _ (form_zero _) (by rfl) ?_) | ((with_reducible refine gate_dst (N := 3) rfl ?_); refine box_event ?hg (N := 3) ?hd (cs := #[.nilFunc, .int .i64 0, .int .i64 0, .nilFunc]) (t := 73) ?hr ?_; (case hd => rfl); (case hg => rfl); (case hr => first | (go_simp; done) | (go_simp; rfl)); intro gb hg w1 hbox hb; have n0 := Aside0.mk (blk_below HM.out hb); have n1 := Aside0.mk (below_step HB.out hb); have n2 := Aside0.mk hbox; have n3 := Aside0.mk (show w.heap.size ≤ gb by rw [hg]; exact below_size HB.out); have n4 := Aside0.mk (show b ≠ gb by rw [hg]; exact Nat.ne_of_lt (blk_lt HM.out)); clear HM HB; have HM := n0; have HB := n1; have BK := n2; have GE := n3; have NB := n4; clear n0 n1 n2 n3 n4 hb hbox hg; have hcz0 : w1.cell? ⟨gb, 0, none⟩ = some .nilFunc := (blk_cell BK.out 0).trans rfl; have hcz1 : w1.cell? ⟨gb, 1, none⟩ = some (.int .i64 0) := (blk_cell BK.out 1).trans rfl; have hcz2 : w1.cell? ⟨gb, 2, none⟩ = some (.int .i64 0) := (blk_cell BK.out 2).trans rfl; have hcz3 : w1.cell? ⟨gb, 3, none⟩ = some .nilFunc := (blk_cell BK.out 3).trans rfl; have hfz0 := blk_frozen BK.out 0; have hfz1 := blk_frozen BK.out 1; have hfz2 := blk_frozen BK.out 2; have hfz3 := blk_frozen BK.out 3))
      go_roundg 8
      case measure => have := HN.out; omega
      case rel => exact ⟨50, rfl, ⟨by omega⟩, ⟨(obj_far (obj_far (obj_far (obj_far HM.out NB.out) NB.out) NB.out) NB.out)⟩, ⟨below_set (below_set (below_set (below_set HB.out GE.out) GE.out) GE.out) GE.out⟩⟩
    · go_wp2_with (first | ((with_reducible refine gate_lookup rfl ?_); refine map_not rfl _ _ rfl hm hk rfl rfl HM.out _ (form_zero _) (by rfl) ?_) | ((with_reducible refine gate_dst (N := 3) rfl ?_); refine box_event ?hg (N := 3) ?hd (cs := #[.nilFunc, .int .i64 0, .int .i64 0, .nilFunc]) (t := 73) ?hr ?_; (case hd => rfl); (case hg => rfl); (case hr => first | (go_simp; done) | (go_simp; rfl)); intro gb hg w1 hbox hb; have n0 := Aside0.mk (blk_below HM.out hb); have n1 := Aside0.mk (below_step HB.out hb); have n2 := Aside0.mk hbox; have n3 := Aside0.mk (show w.heap.size ≤ gb by rw [hg]; exact below_size HB.out); have n4 := Aside0.mk (show b ≠ gb by rw [hg]; exact Nat.ne_of_lt (blk_lt HM.out)); clear HM HB; have HM := n0; have HB := n1; have BK := n2; have GE := n3; have NB := n4; clear n0 n1 n2 n3 n4 hb hbox hg; have hcz0 : w1.cell? ⟨gb, 0, none⟩ = some .nilFunc := (blk_cell BK.out 0).trans rfl; have hcz1 : w1.cell? ⟨gb, 1, none⟩ = some (.int .i64 0) := (blk_cell BK.out 1).trans rfl; have hcz2 : w1.cell? ⟨gb, 2, none⟩ = some (.int .i64 0) := (blk_cell BK.out 2).trans rfl; have hcz3 : w1.cell? ⟨gb, 3, none⟩ = some .nilFunc := (blk_cell BK.out 3).trans rfl; have hfz0 := blk_frozen BK.out 0; have hfz1 := blk_frozen BK.out 1; have hfz2 := blk_frozen BK.out 2; have hfz3 := blk_frozen BK.out 3) | ((with_reducible refine gate_update rfl ?_); refine map_put rfl _ _ _ (Or.inl rfl) hm hk rfl rfl _ rfl (obj_far (obj_far (obj_far (obj_far HM.out NB.out) NB.out) NB.out) NB.out) (by rfl) ?_; intro w2 hb1 hg1; have HM2 := Aside0.mk hb1; have HB2 := Aside0.mk (RowKit.Below.grown (below_set (below_set (below_set (below_set HB.out GE.out) GE.out) GE.out) GE.out) hg1 (below_size (below_set (below_set (below_set (below_set HB.out GE.out) GE.out) GE.out) GE.out)) (fun k hk => by cases hk; exact GW.out)); clear HM HB hb1 hg1; have HM := HM2; have HB := HB2; clear HM2 HB2))
      go_roundg 7
      case measure => have := HN.out; omega
      case rel => exact ⟨51, rfl, ⟨by omega⟩, ⟨HM.out⟩, HB⟩
    · go_wp2_with (first | ((with_reducible refine gate_lookup rfl ?_); refine map_not rfl _ _ rfl hm hk rfl rfl HM.out _ (form_zero _) (by rfl) ?_) | ((with_reducible refine gate_dst (N := 3) rfl ?_); refine box_event ?hg (N := 3) ?hd (cs := #[.nilFunc, .int .i64 0, .int .i64 0, .nilFunc]) (t := 73) ?hr ?_; (case hd => rfl); (case hg => rfl); (case hr => first | (go_simp; done) | (go_simp; rfl)); intro gb hg w1 hbox hb; have n0 := Aside0.mk (blk_below HM.out hb); have n1 := Aside0.mk (below_step HB.out hb); have n2 := Aside0.mk hbox; have n3 := Aside0.mk (show w.heap.size ≤ gb by rw [hg]; exact below_size HB.out); have n4 := Aside0.mk (show b ≠ gb by rw [hg]; exact Nat.ne_of_lt (blk_lt HM.out)); clear HM HB; have HM := n0; have HB := n1; have BK := n2; have GE := n3; have NB := n4; clear n0 n1 n2 n3 n4 hb hbox hg; have hcz0 : w1.cell? ⟨gb, 0, none⟩ = some .nilFunc := (blk_cell BK.out 0).trans rfl; have hcz1 : w1.cell? ⟨gb, 1, none⟩ = some (.int .i64 0) := (blk_cell BK.out 1).trans rfl; have hcz2 : w1.cell? ⟨gb, 2, none⟩ = some (.int .i64 0) := (blk_cell BK.out 2).trans rfl; have hcz3 : w1.cell? ⟨gb, 3, none⟩ = some .nilFunc := (blk_cell BK.out 3).trans rfl; have hfz0 := blk_frozen BK.out 0; have hfz1 := blk_frozen BK.out 1; have hfz2 := blk_frozen BK.out 2; have hfz3 := blk_frozen BK.out 3) | ((with_reducible refine gate_update rfl ?_); refine map_put rfl _ _ _ (Or.inl rfl) hm hk rfl rfl _ rfl (obj_far (obj_far (obj_far (obj_far HM.out NB.out) NB.out) NB.out) NB.out) (by rfl) ?_; intro w2 hb1 hg1; have HM2 := Aside0.mk hb1; have HB2 := Aside0.mk (RowKit.Below.grown (below_set (below_set (below_set (below_set HB.out GE.out) GE.out) GE.out) GE.out) hg1 (below_size (below_set (below_set (below_set (below_set HB.out GE.out) GE.out) GE.out) GE.out)) (fun k hk => by cases hk; exact GW.out)); clear HM HB hb1 hg1; have HM := HM2; have HB := HB2; clear HM2 HB2))
      go_roundg 6
      case measure => have := HN.out; omega
      case rel => exact ⟨52, rfl, ⟨by omega⟩, ⟨HM.out⟩, HB⟩
    · go_wp2_with (first | ((with_reducible refine gate_lookup rfl ?_); refine map_not rfl _ _ rfl hm hk rfl rfl HM.out _ (form_zero _) (by rfl) ?_) | ((with_reducible refine gate_dst (N := 3) rfl ?_); refine box_event ?hg (N := 3) ?hd (cs := #[.nilFunc, .int .i64 0, .int .i64 0, .nilFunc]) (t := 73) ?hr ?_; (case hd => rfl); (case hg => rfl); (case hr => first | (go_simp; done) | (go_simp; rfl)); intro gb hg w1 hbox hb; have n0 := Aside0.mk (blk_below HM.out hb); have n1 := Aside0.mk (below_step HB.out hb); have n2 := Aside0.mk hbox; have n3 := Aside0.mk (show w.heap.size ≤ gb by rw [hg]; exact below_size HB.out); have n4 := Aside0.mk (show b ≠ gb by rw [hg]; exact Nat.ne_of_lt (blk_lt HM.out)); clear HM HB; have HM := n0; have HB := n1; have BK := n2; have GE := n3; have NB := n4; clear n0 n1 n2 n3 n4 hb hbox hg; have hcz0 : w1.cell? ⟨gb, 0, none⟩ = some .nilFunc := (blk_cell BK.out 0).trans rfl; have hcz1 : w1.cell? ⟨gb, 1, none⟩ = some (.int .i64 0) := (blk_cell BK.out 1).trans rfl; have hcz2 : w1.cell? ⟨gb, 2, none⟩ = some (.int .i64 0) := (blk_cell BK.out 2).trans rfl; have hcz3 : w1.cell? ⟨gb, 3, none⟩ = some .nilFunc := (blk_cell BK.out 3).trans rfl; have hfz0 := blk_frozen BK.out 0; have hfz1 := blk_frozen BK.out 1; have hfz2 := blk_frozen BK.out 2; have hfz3 := blk_frozen BK.out 3) | ((with_reducible refine gate_update rfl ?_); refine map_put rfl _ _ _ (Or.inl rfl) hm hk rfl rfl _ rfl (obj_far (obj_far (obj_far (obj_far HM.out NB.out) NB.out) NB.out) NB.out) (by rfl) ?_; intro w2 hb1 hg1; have HM2 := Aside0.mk hb1; have HB2 := Aside0.mk (RowKit.Below.grown (below_set (below_set (below_set (below_set HB.out GE.out) GE.out) GE.out) GE.out) hg1 (below_size (below_set (below_set (below_set (below_set HB.out GE.out) GE.out) GE.out) GE.out)) (fun k hk => by cases hk; exact GW.out)); clear HM HB hb1 hg1; have HM := HM2; have HB := HB2; clear HM2 HB2))
      go_roundg 5
      case measure => have := HN.out; omega
      case rel => exact ⟨53, rfl, ⟨by omega⟩, ⟨HM.out⟩, HB⟩
    · go_wp2_with (first | ((with_reducible refine gate_lookup rfl ?_); refine map_has rfl _ _ rfl hm hk rfl rfl HM.out 7 (.agg #[.func (.func 72) #[] #[], .int .i64 1, .int .i64 1, .func (.func 77) #[] #[]]) (by rfl) ?_) | ((with_reducible refine gate_dst (N := 3) rfl ?_); refine box_event ?hg (N := 3) ?hd (cs := #[.nilFunc, .int .i64 0, .int .i64 0, .nilFunc]) (t := 73) ?hr ?_; (case hd => rfl); (case hg => rfl); (case hr => first | (go_simp; done) | (go_simp; rfl)); intro gb hg w1 hbox hb; have n0 := Aside0.mk (blk_below HM.out hb); have n1 := Aside0.mk (below_step HB.out hb); have n2 := Aside0.mk hbox; have n3 := Aside0.mk (show w.heap.size ≤ gb by rw [hg]; exact below_size HB.out); have n4 := Aside0.mk (show b ≠ gb by rw [hg]; exact Nat.ne_of_lt (blk_lt HM.out)); clear HM HB; have HM := n0; have HB := n1; have BK := n2; have GE := n3; have NB := n4; clear n0 n1 n2 n3 n4 hb hbox hg; have hcz0 : w1.cell? ⟨gb, 0, none⟩ = some .nilFunc := (blk_cell BK.out 0).trans rfl; have hcz1 : w1.cell? ⟨gb, 1, none⟩ = some (.int .i64 0) := (blk_cell BK.out 1).trans rfl; have hcz2 : w1.cell? ⟨gb, 2, none⟩ = some (.int .i64 0) := (blk_cell BK.out 2).trans rfl; have hcz3 : w1.cell? ⟨gb, 3, none⟩ = some .nilFunc := (blk_cell BK.out 3).trans rfl; have hfz0 := blk_frozen BK.out 0; have hfz1 := blk_frozen BK.out 1; have hfz2 := blk_frozen BK.out 2; have hfz3 := blk_frozen BK.out 3))
      go_roundg 4
      case measure => have := HN.out; omega
      case rel => exact ⟨54, rfl, ⟨by omega⟩, ⟨(obj_far (obj_far (obj_far (obj_far HM.out NB.out) NB.out) NB.out) NB.out)⟩, ⟨below_set (below_set (below_set (below_set HB.out GE.out) GE.out) GE.out) GE.out⟩⟩
    · go_wp2_with (first | ((with_reducible refine gate_lookup rfl ?_); refine map_not rfl _ _ rfl hm hk rfl rfl HM.out _ (form_zero _) (by rfl) ?_) | ((with_reducible refine gate_dst (N := 3) rfl ?_); refine box_event ?hg (N := 3) ?hd (cs := #[.nilFunc, .int .i64 0, .int .i64 0, .nilFunc]) (t := 73) ?hr ?_; (case hd => rfl); (case hg => rfl); (case hr => first | (go_simp; done) | (go_simp; rfl)); intro gb hg w1 hbox hb; have n0 := Aside0.mk (blk_below HM.out hb); have n1 := Aside0.mk (below_step HB.out hb); have n2 := Aside0.mk hbox; have n3 := Aside0.mk (show w.heap.size ≤ gb by rw [hg]; exact below_size HB.out); have n4 := Aside0.mk (show b ≠ gb by rw [hg]; exact Nat.ne_of_lt (blk_lt HM.out)); clear HM HB; have HM := n0; have HB := n1; have BK := n2; have GE := n3; have NB := n4; clear n0 n1 n2 n3 n4 hb hbox hg; have hcz0 : w1.cell? ⟨gb, 0, none⟩ = some .nilFunc := (blk_cell BK.out 0).trans rfl; have hcz1 : w1.cell? ⟨gb, 1, none⟩ = some (.int .i64 0) := (blk_cell BK.out 1).trans rfl; have hcz2 : w1.cell? ⟨gb, 2, none⟩ = some (.int .i64 0) := (blk_cell BK.out 2).trans rfl; have hcz3 : w1.cell? ⟨gb, 3, none⟩ = some .nilFunc := (blk_cell BK.out 3).trans rfl; have hfz0 := blk_frozen BK.out 0; have hfz1 := blk_frozen BK.out 1; have hfz2 := blk_frozen BK.out 2; have hfz3 := blk_frozen BK.out 3) | ((with_reducible refine gate_update rfl ?_); refine map_put rfl _ _ _ (Or.inl rfl) hm hk rfl rfl _ rfl (obj_far (obj_far (obj_far (obj_far HM.out NB.out) NB.out) NB.out) NB.out) (by rfl) ?_; intro w2 hb1 hg1; have HM2 := Aside0.mk hb1; have HB2 := Aside0.mk (RowKit.Below.grown (below_set (below_set (below_set (below_set HB.out GE.out) GE.out) GE.out) GE.out) hg1 (below_size (below_set (below_set (below_set (below_set HB.out GE.out) GE.out) GE.out) GE.out)) (fun k hk => by cases hk; exact GW.out)); clear HM HB hb1 hg1; have HM := HM2; have HB := HB2; clear HM2 HB2))
      go_roundg 3
      case measure => have := HN.out; omega
      case rel => exact ⟨55, rfl, ⟨by omega⟩, ⟨HM.out⟩, HB⟩
    · go_wp2_with (first | ((with_reducible refine gate_lookup rfl ?_); refine map_not rfl _ _ rfl hm hk rfl rfl HM.out _ (form_zero _) (by rfl) ?_) | ((with_reducible refine gate_dst (N := 3) rfl ?_); refine box_event ?hg (N := 3) ?hd (cs := #[.nilFunc, .int .i64 0, .int .i64 0, .nilFunc]) (t := 73) ?hr ?_; (case hd => rfl); (case hg => rfl); (case hr => first | (go_simp; done) | (go_simp; rfl)); intro gb hg w1 hbox hb; have n0 := Aside0.mk (blk_below HM.out hb); have n1 := Aside0.mk (below_step HB.out hb); have n2 := Aside0.mk hbox; have n3 := Aside0.mk (show w.heap.size ≤ gb by rw [hg]; exact below_size HB.out); have n4 := Aside0.mk (show b ≠ gb by rw [hg]; exact Nat.ne_of_lt (blk_lt HM.out)); clear HM HB; have HM := n0; have HB := n1; have BK := n2; have GE := n3; have NB := n4; clear n0 n1 n2 n3 n4 hb hbox hg; have hcz0 : w1.cell? ⟨gb, 0, none⟩ = some .nilFunc := (blk_cell BK.out 0).trans rfl; have hcz1 : w1.cell? ⟨gb, 1, none⟩ = some (.int .i64 0) := (blk_cell BK.out 1).trans rfl; have hcz2 : w1.cell? ⟨gb, 2, none⟩ = some (.int .i64 0) := (blk_cell BK.out 2).trans rfl; have hcz3 : w1.cell? ⟨gb, 3, none⟩ = some .nilFunc := (blk_cell BK.out 3).trans rfl; have hfz0 := blk_frozen BK.out 0; have hfz1 := blk_frozen BK.out 1; have hfz2 := blk_frozen BK.out 2; have hfz3 := blk_frozen BK.out 3) | ((with_reducible refine gate_update rfl ?_); refine map_put rfl _ _ _ (Or.inl rfl) hm hk rfl rfl _ rfl (obj_far (obj_far (obj_far (obj_far HM.out NB.out) NB.out) NB.out) NB.out) (by rfl) ?_; intro w2 hb1 hg1; have HM2 := Aside0.mk hb1; have HB2 := Aside0.mk (RowKit.Below.grown (below_set (below_set (below_set (below_set HB.out GE.out) GE.out) GE.out) GE.out) hg1 (below_size (below_set (below_set (below_set (below_set HB.out GE.out) GE.out) GE.out) GE.out)) (fun k hk => by cases hk; exact GW.out)); clear HM HB hb1 hg1; have HM := HM2; have HB := HB2; clear HM2 HB2))
      go_roundg 2
      case measure => have := HN.out; omega
      case rel => exact ⟨56, rfl, ⟨by omega⟩, ⟨HM.out⟩, HB⟩
    · go_wp2_with (first | ((with_reducible refine gate_lookup rfl ?_); refine map_not rfl _ _ rfl hm hk rfl rfl HM.out _ (form_zero _) (by rfl) ?_) | ((with_reducible refine gate_dst (N := 3) rfl ?_); refine box_event ?hg (N := 3) ?hd (cs := #[.nilFunc, .int .i64 0, .int .i64 0, .nilFunc]) (t := 73) ?hr ?_; (case hd => rfl); (case hg => rfl); (case hr => first | (go_simp; done) | (go_simp; rfl)); intro gb hg w1 hbox hb; have n0 := Aside0.mk (blk_below HM.out hb); have n1 := Aside0.mk (below_step HB.out hb); have n2 := Aside0.mk hbox; have n3 := Aside0.mk (show w.heap.size ≤ gb by rw [hg]; exact below_size HB.out); have n4 := Aside0.mk (show b ≠ gb by rw [hg]; exact Nat.ne_of_lt (blk_lt HM.out)); clear HM HB; have HM := n0; have HB := n1; have BK := n2; have GE := n3; have NB := n4; clear n0 n1 n2 n3 n4 hb hbox hg; have hcz0 : w1.cell? ⟨gb, 0, none⟩ = some .nilFunc := (blk_cell BK.out 0).trans rfl; have hcz1 : w1.cell? ⟨gb, 1, none⟩ = some (.int .i64 0) := (blk_cell BK.out 1).trans rfl; have hcz2 : w1.cell? ⟨gb, 2, none⟩ = some (.int .i64 0) := (blk_cell BK.out 2).trans rfl; have hcz3 : w1.cell? ⟨gb, 3, none⟩ = some .nilFunc := (blk_cell BK.out 3).trans rfl; have hfz0 := blk_frozen BK.out 0; have hfz1 := blk_frozen BK.out 1; have hfz2 := blk_frozen BK.out 2; have hfz3 := blk_frozen BK.out 3) | ((with_reducible refine gate_update rfl ?_); refine map_put rfl _ _ _ (Or.inl rfl) hm hk rfl rfl _ rfl (obj_far (obj_far (obj_far (obj_far HM.out NB.out) NB.out) NB.out) NB.out) (by rfl) ?_; intro w2 hb1 hg1; have HM2 := Aside0.mk hb1; have HB2 := Aside0.mk (RowKit.Below.grown (below_set (below_set (below_set (below_set HB.out GE.out) GE.out) GE.out) GE.out) hg1 (below_size (below_set (below_set (below_set (below_set HB.out GE.out) GE.out) GE.out) GE.out)) (fun k hk => by cases hk; exact GW.out)); clear HM HB hb1 hg1; have HM := HM2; have HB := HB2; clear HM2 HB2))
      go_roundg 1
      case measure => have := HN.out; omega
      case rel => exact ⟨57, rfl, ⟨by omega⟩, ⟨HM.out⟩, HB⟩
    · go_wp2_with (first | ((with_reducible refine gate_lookup rfl ?_); refine map_not rfl _ _ rfl hm hk rfl rfl HM.out _ (form_zero _) (by rfl) ?_) | ((with_reducible refine gate_dst (N := 3) rfl ?_); refine box_event ?hg (N := 3) ?hd (cs := #[.nilFunc, .int .i64 0, .int .i64 0, .nilFunc]) (t := 73) ?hr ?_; (case hd => rfl); (case hg => rfl); (case hr => first | (go_simp; done) | (go_simp; rfl)); intro gb hg w1 hbox hb; have n0 := Aside0.mk (blk_below HM.out hb); have n1 := Aside0.mk (below_step HB.out hb); have n2 := Aside0.mk hbox; have n3 := Aside0.mk (show w.heap.size ≤ gb by rw [hg]; exact below_size HB.out); have n4 := Aside0.mk (show b ≠ gb by rw [hg]; exact Nat.ne_of_lt (blk_lt HM.out)); clear HM HB; have HM := n0; have HB := n1; have BK := n2; have GE := n3; have NB := n4; clear n0 n1 n2 n3 n4 hb hbox hg; have hcz0 : w1.cell? ⟨gb, 0, none⟩ = some .nilFunc := (blk_cell BK.out 0).trans rfl; have hcz1 : w1.cell? ⟨gb, 1, none⟩ = some (.int .i64 0) := (blk_cell BK.out 1).trans rfl; have hcz2 : w1.cell? ⟨gb, 2, none⟩ = some (.int .i64 0) := (blk_cell BK.out 2).trans rfl; have hcz3 : w1.cell? ⟨gb, 3, none⟩ = some .nilFunc := (blk_cell BK.out 3).trans rfl; have hfz0 := blk_frozen BK.out 0; have hfz1 := blk_frozen BK.out 1; have hfz2 := blk_frozen BK.out 2; have hfz3 := blk_frozen BK.out 3) | ((with_reducible refine gate_update rfl ?_); refine map_put rfl _ _ _ (Or.inl rfl) hm hk rfl rfl _ rfl (obj_far (obj_far (obj_far (obj_far HM.out NB.out) NB.out) NB.out) NB.out) (by rfl) ?_; intro w2 hb1 hg1; have HM2 := Aside0.mk hb1; have HB2 := Aside0.mk (RowKit.Below.grown (below_set (below_set (below_set (below_set HB.out GE.out) GE.out) GE.out) GE.out) hg1 (below_size (below_set (below_set (below_set (below_set HB.out GE.out) GE.out) GE.out) GE.out)) (fun k hk => by cases hk; exact GW.out)); clear HM HB hb1 hg1; have HM := HM2; have HB := HB2; clear HM2 HB2))
      go_roundg 0
      case measure => have := HN.out; omega
      case rel => exact ⟨58, rfl, ⟨by omega⟩, ⟨HM.out⟩, HB⟩
end Go.Proofs.Ytlbchdalimngjaa.P
