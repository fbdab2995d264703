/- Parts of a proof, joined by a program: TreeMade: parts of a tree that was put together are those that it was made of, for any twig and parts (no condition). -/
import Derived.KernelRfl
import Derived.Test.YtlbchdalimngjaaTDg
namespace Go.Proofs.Ytlbchdalimngjaa.P
open Go.RowKit Go.Proofs.YtlbchdalimngjaaW.PrintWords Go.Proofs.YtlbchdalimngjaaW.PrintLast Go.Proofs.YtlbchdalimngjaaW.PrintMore
attribute [local go_sem] max2_int min2_int max_two min_two max_three min_three max_four min_four
set_option linter.unusedVariables false
set_option linter.unusedSimpArgs false
mutual
def token_text.l0 : Nat → ByteArray → Int → List Int → Int → Option (ByteArray × Int × Int × Int)
  | 0, _, _, _, _ => none
  | k + 1, x0, x1, x8, x9 => if x9 < (x0.size : Int) then (if 0 ≤ x9 then (token_text.j1 k x0 x1 x8 x9 ((bt x0 x9) != 34)) else (none)) else (token_text.j1 k x0 x1 x8 x9 false)
def token_text.j1 : Nat → ByteArray → Int → List Int → Int → Bool → Option (ByteArray × Int × Int × Int)
  | 0, _, _, _, _, _ => none
  | k + 1, x0, x1, x8, x9, x24 => if x24 = true then (if 0 ≤ x9 then (if x9 < (x0.size : Int) then (if (bt x0 x9) < 32 then (token_text.j2 k x0 x1 x8 x9 (bt x0 x9) true) else (token_text.j2 k x0 x1 x8 x9 (bt x0 x9) (decide ((bt x0 x9) > 126)))) else (none)) else (none)) else (if x9 ≥ (x0.size : Int) then (some ((⟨#[]⟩ : ByteArray), 0, (x0.size : Int), 4)) else (some (strOfNums x8, wrap64 (x9 + 1), 0, 0)))
def token_text.j2 : Nat → ByteArray → Int → List Int → Int → Int → Bool → Option (ByteArray × Int × Int × Int)
  | 0, _, _, _, _, _, _ => none
  | k + 1, x0, x1, x8, x9, x10, x33 => if x33 = true then (some ((⟨#[]⟩ : ByteArray), 0, x9, 9)) else (if x10 = 92 then (if (wrap64 (x9 + 1)) = (x0.size : Int) then (if (wrap64 (x9 + 1)) ≥ (x0.size : Int) then (some ((⟨#[]⟩ : ByteArray), 0, (x0.size : Int), 4)) else (some (strOfNums x8, wrap64 ((wrap64 (x9 + 1)) + 1), 0, 0))) else (if 0 ≤ (wrap64 (x9 + 1)) then (if (wrap64 (x9 + 1)) < (x0.size : Int) then (if (bt x0 (wrap64 (x9 + 1))) = 34 then (token_text.j3 k x0 x1 x8 (wrap64 (x9 + 1)) (bt x0 (wrap64 (x9 + 1))) ((bt x0 (wrap64 (x9 + 1))) == 34)) else (token_text.j3 k x0 x1 x8 (wrap64 (x9 + 1)) (bt x0 (wrap64 (x9 + 1))) ((bt x0 (wrap64 (x9 + 1))) == 92))) else (none)) else (none))) else (if (x8.length : Int) = 4095 then (some ((⟨#[]⟩ : ByteArray), 0, x1, 2)) else (if x8.length < 140737488355328 then (token_text.l0 k x0 x1 (x8 ++ [x10]) (wrap64 (x9 + 1))) else (none))))
def token_text.j3 : Nat → ByteArray → Int → List Int → Int → Int → Bool → Option (ByteArray × Int × Int × Int)
  | 0, _, _, _, _, _, _ => none
  | k + 1, x0, x1, x8, x9, x45, x47 => if x47 = true then (if 0 ≤ x9 then (if x9 < (x0.size : Int) then (if (x8.length : Int) = 4095 then (some ((⟨#[]⟩ : ByteArray), 0, x1, 2)) else (if x8.length < 140737488355328 then (token_text.l0 k x0 x1 (x8 ++ [bt x0 x9]) (wrap64 (x9 + 1))) else (none))) else (none)) else (none)) else (if x45 = 110 then (if (x8.length : Int) = 4095 then (some ((⟨#[]⟩ : ByteArray), 0, x1, 2)) else (if x8.length < 140737488355328 then (token_text.l0 k x0 x1 (x8 ++ [10]) (wrap64 (x9 + 1))) else (none))) else (if x45 = 120 then (token_text.l1 k x0 x1 x8 x9 0 0) else (some ((⟨#[]⟩ : ByteArray), 0, x9, 9))))
def token_text.l1 : Nat → ByteArray → Int → List Int → Int → Int → Int → Option (ByteArray × Int × Int × Int)
  | 0, _, _, _, _, _, _ => none
  | k + 1, x0, x1, x8, x9, x11, x57 => if x57 < 2 then (if (wrap64 (x9 + 1)) = (x0.size : Int) then (some ((⟨#[]⟩ : ByteArray), 0, wrap64 (x9 + 1), 4)) else (if 0 ≤ (wrap64 (x9 + 1)) then (if (wrap64 (x9 + 1)) < (x0.size : Int) then ((strings_IndexByte.f (⟨#[48, 49, 50, 51, 52, 53, 54, 55, 56, 57, 97, 98, 99, 100, 101, 102]⟩ : ByteArray) (bt x0 (wrap64 (x9 + 1)))).bind fun t114 => (if t114 < 0 then (some ((⟨#[]⟩ : ByteArray), 0, wrap64 (x9 + 1), 9)) else (token_text.l1 k x0 x1 x8 (wrap64 (x9 + 1)) (wrap64 ((wrap64 (16 * x11)) + t114)) (wrap64 (x57 + 1))))) else (none)) else (none))) else (if (x8.length : Int) = 4095 then (some ((⟨#[]⟩ : ByteArray), 0, x1, 2)) else (if x8.length < 140737488355328 then (token_text.l0 k x0 x1 (x8 ++ [(x11) % 256]) (wrap64 (x9 + 1))) else (none)))
end
def token_text.f (k : Nat) (a0 : ByteArray) (a1 : Int) : Option (ByteArray × Int × Int × Int) := token_text.l0 k a0 a1 ([] : List Int) (wrap64 (a1 + 1))
theorem token_text.mono_l : ∀ k, (∀ y0 y1 y2 y3, LeO (token_text.l0 k y0 y1 y2 y3) (token_text.l0 (k + 1) y0 y1 y2 y3)) ∧ (∀ y0 y1 y2 y3 y4, LeO (token_text.j1 k y0 y1 y2 y3 y4) (token_text.j1 (k + 1) y0 y1 y2 y3 y4)) ∧ (∀ y0 y1 y2 y3 y4 y5, LeO (token_text.j2 k y0 y1 y2 y3 y4 y5) (token_text.j2 (k + 1) y0 y1 y2 y3 y4 y5)) ∧ (∀ y0 y1 y2 y3 y4 y5, LeO (token_text.j3 k y0 y1 y2 y3 y4 y5) (token_text.j3 (k + 1) y0 y1 y2 y3 y4 y5)) ∧ (∀ y0 y1 y2 y3 y4 y5, LeO (token_text.l1 k y0 y1 y2 y3 y4 y5) (token_text.l1 (k + 1) y0 y1 y2 y3 y4 y5))
  | 0 => ⟨fun _ _ _ _ r h => by simp [token_text.l0] at h, fun _ _ _ _ _ r h => by simp [token_text.j1] at h, fun _ _ _ _ _ _ r h => by simp [token_text.j2] at h, fun _ _ _ _ _ _ r h => by simp [token_text.j3] at h, fun _ _ _ _ _ _ r h => by simp [token_text.l1] at h⟩
  | k + 1 => by
    obtain ⟨ih0, ih1, ih2, ih3, ih4⟩ := token_text.mono_l k
    refine ⟨?_, ?_, ?_, ?_, ?_⟩
    · intro y0 y1 y2 y3
      unfold token_text.l0
      repeat' first
      | (with_reducible exact ih0 _ _ _ _)
      | (with_reducible exact ih1 _ _ _ _ _)
      | (with_reducible exact ih2 _ _ _ _ _ _)
      | (with_reducible exact ih3 _ _ _ _ _ _)
      | (with_reducible exact ih4 _ _ _ _ _ _)
      | (with_reducible exact LeO.refl _)
      | (with_reducible exact LeO.none _)
      | (with_reducible refine LeO.ite ?_ ?_)
      | (with_reducible refine LeO.bind ?_ (fun _ => ?_))
      | exact ih0 _ _ _ _
      | exact ih1 _ _ _ _ _
      | exact ih2 _ _ _ _ _ _
      | exact ih3 _ _ _ _ _ _
      | exact ih4 _ _ _ _ _ _
      | exact LeO.none _
      | refine LeO.ite ?_ ?_
      | refine LeO.bind ?_ (fun _ => ?_)
    · intro y0 y1 y2 y3 y4
      unfold token_text.j1
      repeat' first
      | (with_reducible exact ih0 _ _ _ _)
      | (with_reducible exact ih1 _ _ _ _ _)
      | (with_reducible exact ih2 _ _ _ _ _ _)
      | (with_reducible exact ih3 _ _ _ _ _ _)
      | (with_reducible exact ih4 _ _ _ _ _ _)
      | (with_reducible exact LeO.refl _)
      | (with_reducible exact LeO.none _)
      | (with_reducible refine LeO.ite ?_ ?_)
      | (with_reducible refine LeO.bind ?_ (fun _ => ?_))
      | exact ih0 _ _ _ _
      | exact ih1 _ _ _ _ _
      | exact ih2 _ _ _ _ _ _
      | exact ih3 _ _ _ _ _ _
      | exact ih4 _ _ _ _ _ _
      | exact LeO.none _
      | refine LeO.ite ?_ ?_
      | refine LeO.bind ?_ (fun _ => ?_)
    · intro y0 y1 y2 y3 y4 y5
      unfold token_text.j2
      repeat' first
      | (with_reducible exact ih0 _ _ _ _)
      | (with_reducible exact ih1 _ _ _ _ _)
      | (with_reducible exact ih2 _ _ _ _ _ _)
      | (with_reducible exact ih3 _ _ _ _ _ _)
      | (with_reducible exact ih4 _ _ _ _ _ _)
      | (with_reducible exact LeO.refl _)
      | (with_reducible exact LeO.none _)
      | (with_reducible refine LeO.ite ?_ ?_)
      | (with_reducible refine LeO.bind ?_ (fun _ => ?_))
      | exact ih0 _ _ _ _
      | exact ih1 _ _ _ _ _
      | exact ih2 _ _ _ _ _ _
      | exact ih3 _ _ _ _ _ _
      | exact ih4 _ _ _ _ _ _
      | exact LeO.none _
      | refine LeO.ite ?_ ?_
      | refine LeO.bind ?_ (fun _ => ?_)
    · intro y0 y1 y2 y3 y4 y5
      unfold token_text.j3
      repeat' first
      | (with_reducible exact ih0 _ _ _ _)
      | (with_reducible exact ih1 _ _ _ _ _)
      | (with_reducible exact ih2 _ _ _ _ _ _)
      | (with_reducible exact ih3 _ _ _ _ _ _)
      | (with_reducible exact ih4 _ _ _ _ _ _)
      | (with_reducible exact LeO.refl _)
      | (with_reducible exact LeO.none _)
      | (with_reducible refine LeO.ite ?_ ?_)
      | (with_reducible refine LeO.bind ?_ (fun _ => ?_))
      | exact ih0 _ _ _ _
      | exact ih1 _ _ _ _ _
      | exact ih2 _ _ _ _ _ _
      | exact ih3 _ _ _ _ _ _
      | exact ih4 _ _ _ _ _ _
      | exact LeO.none _
      | refine LeO.ite ?_ ?_
      | refine LeO.bind ?_ (fun _ => ?_)
    · intro y0 y1 y2 y3 y4 y5
      unfold token_text.l1
      repeat' first
      | (with_reducible exact ih0 _ _ _ _)
      | (with_reducible exact ih1 _ _ _ _ _)
      | (with_reducible exact ih2 _ _ _ _ _ _)
      | (with_reducible exact ih3 _ _ _ _ _ _)
      | (with_reducible exact ih4 _ _ _ _ _ _)
      | (with_reducible exact LeO.refl _)
      | (with_reducible exact LeO.none _)
      | (with_reducible refine LeO.ite ?_ ?_)
      | (with_reducible refine LeO.bind ?_ (fun _ => ?_))
      | exact ih0 _ _ _ _
      | exact ih1 _ _ _ _ _
      | exact ih2 _ _ _ _ _ _
      | exact ih3 _ _ _ _ _ _
      | exact ih4 _ _ _ _ _ _
      | exact LeO.none _
      | refine LeO.ite ?_ ?_
      | refine LeO.bind ?_ (fun _ => ?_)
theorem token_text.mono : ∀ a0 a1 k, LeO (token_text.f k a0 a1) (token_text.f (k + 1) a0 a1) := by
  intro a0 a1 k
  obtain ⟨ih0, ih1, ih2, ih3, ih4⟩ := token_text.mono_l k
  unfold token_text.f
  repeat' first
      | (with_reducible exact ih0 _ _ _ _)
      | (with_reducible exact ih1 _ _ _ _ _)
      | (with_reducible exact ih2 _ _ _ _ _ _)
      | (with_reducible exact ih3 _ _ _ _ _ _)
      | (with_reducible exact ih4 _ _ _ _ _ _)
      | (with_reducible exact LeO.refl _)
      | (with_reducible exact LeO.none _)
      | (with_reducible refine LeO.ite ?_ ?_)
      | (with_reducible refine LeO.bind ?_ (fun _ => ?_))
      | exact ih0 _ _ _ _
      | exact ih1 _ _ _ _ _
      | exact ih2 _ _ _ _ _ _
      | exact ih3 _ _ _ _ _ _
      | exact ih4 _ _ _ _ _ _
      | exact LeO.none _
      | refine LeO.ite ?_ ?_
      | refine LeO.bind ?_ (fun _ => ?_)
set_option maxHeartbeats 8000000 in
set_option maxRecDepth 100000 in
theorem token_text.calls (k : Nat) (a0 : ByteArray) (a1 : Int) (r1 : ByteArray) (r2 : Int) (r3 : Int) (r4 : Int) (w : World) (h : token_text.f k a0 a1 = some (r1, r2, r3, r4)) :
    Calls Try.prog 43 #[.string a0, .int .i64 a1] w fun e w' => e = .returned (.tuple #[.string r1, .int .i64 r2, .int .i64 r3, .int .i64 r4]) ∧ Below w.heap.size w w' := by
  have HB := Aside0.mk (Below.refl w.heap.size w)
  have H : (token_text.l0 k a0 a1 ([] : List Int) (wrap64 (a1 + 1))) = some (r1, r2, r3, r4) := h
  clear h
  have H' := Aside0.mk H
  clear H
  go_enter Try.func43, Try.ntmps43
  go_wp2
  go_loopg [8, 9] k (fun kq v8 v9 w' => ∃ (x8_1 : List Int) (x9_1 : Int), v9 = .int .i64 x9_1 ∧ Aside0 (token_text.l0 kq a0 a1 x8_1 x9_1 = some (r1, r2, r3, r4)) ∧ Aside0 (kq ≤ k) ∧ Aside0 (Kd.R (Kd.int .u8) 5 w' w.heap.size (fun _ => True) v8 x8_1) ∧ Aside0 (Below w.heap.size w w'))
  case atStart => exact ⟨(([] : List Int)), (wrap64 (a1 + 1)), (by first | rfl | (simp; done) | (simp [*]; done)), H', ⟨Nat.le_refl _⟩, ⟨by first | exact Kd.R_nil _ _ _ _ _ | exact Kd.N_nil _ _ _ _ _ | exact Kd.V_nil _ _ _ _ _ | exact Kd.Q_nil _ _ _ _ _ | exact Kd.S_nil _ _ _ _ _⟩, ⟨by repeat (first | (with_reducible first | exact HB.out | apply below_alloc | apply pw_below_drewN | apply below_drew1) | exact HB.out)⟩⟩
  case round =>
    clear H'
    try clear p2
    obtain ⟨x8_1, x9_1, rfl, HA, HK1, HO_8, HB⟩ := hrel
    cases gk with
    | zero => exact absurd HA.out (by simp [token_text.l0])
    | succ k1 =>
      have H := HA.out
      clear HA
      simp only [token_text.l0] at H
      have HC3 := Aside0.mk H
      clear H
      go_upto_region 3 with (fail)
      go_cut [24] (fun v24 wc => ∃ (kq : Nat) (x24_2 : Bool), v24 = .bool x24_2 ∧ Aside0 (token_text.j1 kq a0 a1 x8_1 x9_1 x24_2 = some (r1, r2, r3, r4)) ∧ Aside0 (kq ≤ k1) ∧ Aside0 (Kd.R (Kd.int .u8) 5 wc w.heap.size (fun _ => True) u8 x8_1) ∧ Aside0 (Below w.heap.size w wc))
      case first =>
        have H := HC3.out
        clear HC3
        by_cases c4 : x9_1 < (a0.size : Int)
        · rw [if_pos c4] at H
          have c4b0 : decide (x9_1 < (a0.size : Int)) = true := decide_eq_true c4
          clear c4
          (first | rw [c4b0] | (simp only [i64_w, i32_w]; rw [c4b0]) | rw [c4b1] | skip)
          by_cases c5 : 0 ≤ x9_1
          · rw [if_pos c5] at H
            have c5b0 : decide (0 ≤ x9_1) = true := decide_eq_true c5
            clear c5
            have H' := Aside0.mk H
            clear H
            have p6 : 0 ≤ (x9_1 : Int) := of_decide_eq_true (by first | (with_reducible assumption) | assumption)
            have q6 : x9_1 < (a0.size : Int) := of_decide_eq_true (by first | (with_reducible assumption) | assumption)
            have hx6 := bt_at a0 x9_1
            replace p6 := eq_true p6
            replace q6 := eq_true q6
            go_wp2
            go_meet
            case rel => exact ⟨_, (((bt a0 x9_1) != 34)), (by first | rfl | (simp; done) | (simp [*]; done)), H', ⟨by have := HK1.out; first | omega | exact Nat.le_refl _⟩, ⟨by (with_reducible repeat (first | apply Kd.R_alloc | apply Kd.R_drewN | apply Kd.R_drew)); exact HO_8.out⟩, ⟨by repeat (first | (with_reducible first | exact HB.out | apply below_alloc | apply pw_below_drewN | apply below_drew1) | exact HB.out)⟩⟩
          · rw [if_neg c5] at H
            exact absurd H (by simp)
        · rw [if_neg c4] at H
          have c4b0 : decide (x9_1 < (a0.size : Int)) = false := decide_eq_false c4
          clear c4
          (first | rw [c4b0] | (simp only [i64_w, i32_w]; rw [c4b0]) | rw [c4b1] | skip)
          have H' := Aside0.mk H
          clear H
          go_wp2
          go_meet
          case rel => exact ⟨_, (false), (by first | rfl | (simp; done) | (simp [*]; done)), H', ⟨by have := HK1.out; first | omega | exact Nat.le_refl _⟩, ⟨by (with_reducible repeat (first | apply Kd.R_alloc | apply Kd.R_drewN | apply Kd.R_drew)); exact HO_8.out⟩, ⟨by repeat (first | (with_reducible first | exact HB.out | apply below_alloc | apply pw_below_drewN | apply below_drew1) | exact HB.out)⟩⟩
      case rest =>
        clear HC3
        try clear p2
        try clear c4
        try clear c4b0
        try clear c5
        try clear c5b0
        try clear p6
        try clear q6
        try clear hx6
        try clear p2
        try clear p6
        try clear q6
        obtain ⟨kq, x24_2, rfl, HA, HJ2, HO_8, HB⟩ := hcut
        cases kq with
        | zero => exact absurd HA.out (by simp [token_text.j1])
        | succ kj2 =>
          have H := HA.out
          clear HA
          simp only [token_text.j1] at H
          by_cases c7 : x24_2 = true
          · subst c7
            have H1 : (if 0 ≤ x9_1 then (if x9_1 < (a0.size : Int) then (if (bt a0 x9_1) < 32 then (token_text.j2 kj2 a0 a1 x8_1 x9_1 (bt a0 x9_1) true) else (token_text.j2 kj2 a0 a1 x8_1 x9_1 (bt a0 x9_1) (decide ((bt a0 x9_1) > 126)))) else (none)) else (none)) = some (r1, r2, r3, r4) := by rw [if_pos rfl] at H; exact H
            clear H
            have H := H1
            clear H1
            by_cases c8 : 0 ≤ x9_1
            · rw [if_pos c8] at H
              have c8b0 : decide (0 ≤ x9_1) = true := decide_eq_true c8
              clear c8
              by_cases c9 : x9_1 < (a0.size : Int)
              · rw [if_pos c9] at H
                have c9b0 : decide (x9_1 < (a0.size : Int)) = true := decide_eq_true c9
                clear c9
                have HC11 := Aside0.mk H
                clear H
                have p10 : 0 ≤ (x9_1 : Int) := of_decide_eq_true (by first | (with_reducible assumption) | assumption)
                have q10 : x9_1 < (a0.size : Int) := of_decide_eq_true (by first | (with_reducible assumption) | assumption)
                have hx10 := bt_at a0 x9_1
                replace p10 := eq_true p10
                replace q10 := eq_true q10
                go_upto_region 5 with (fail)
                go_cut [33] (fun v33 wc => ∃ (kq : Nat) (x33_10 : Bool), v33 = .bool x33_10 ∧ Aside0 (token_text.j2 kq a0 a1 x8_1 x9_1 (bt a0 x9_1) x33_10 = some (r1, r2, r3, r4)) ∧ Aside0 (kq ≤ kj2) ∧ Aside0 (Kd.R (Kd.int .u8) 5 wc w.heap.size (fun _ => True) u8 x8_1) ∧ Aside0 (Below w.heap.size w wc))
                case first =>
                  have H := HC11.out
                  clear HC11
                  by_cases c12 : (bt a0 x9_1) < 32
                  · rw [if_pos c12] at H
                    have c12b0 : decide ((bt a0 x9_1) < 32) = true := decide_eq_true c12
                    clear c12
                    (first | rw [c12b0] | (simp only [i64_w, i32_w]; rw [c12b0]) | rw [c12b1] | skip)
                    have H' := Aside0.mk H
                    clear H
                    go_wp2
                    go_meet
                    case rel => exact ⟨_, (true), (by first | rfl | (simp; done) | (simp [*]; done)), H', ⟨by have := HK1.out; have := HJ2.out; first | omega | exact Nat.le_refl _⟩, ⟨by (with_reducible repeat (first | apply Kd.R_alloc | apply Kd.R_drewN | apply Kd.R_drew)); exact HO_8.out⟩, ⟨by repeat (first | (with_reducible first | exact HB.out | apply below_alloc | apply pw_below_drewN | apply below_drew1) | exact HB.out)⟩⟩
                  · rw [if_neg c12] at H
                    have c12b0 : decide ((bt a0 x9_1) < 32) = false := decide_eq_false c12
                    clear c12
                    (first | rw [c12b0] | (simp only [i64_w, i32_w]; rw [c12b0]) | rw [c12b1] | skip)
                    have H' := Aside0.mk H
                    clear H
                    go_wp2
                    go_meet
                    case rel => exact ⟨_, (decide ((bt a0 x9_1) > 126)), (by first | rfl | (simp; done) | (simp [*]; done)), H', ⟨by have := HK1.out; have := HJ2.out; first | omega | exact Nat.le_refl _⟩, ⟨by (with_reducible repeat (first | apply Kd.R_alloc | apply Kd.R_drewN | apply Kd.R_drew)); exact HO_8.out⟩, ⟨by repeat (first | (with_reducible first | exact HB.out | apply below_alloc | apply pw_below_drewN | apply below_drew1) | exact HB.out)⟩⟩
                case rest =>
                  clear HC11
                  try clear c1
                  try clear p1
                  try clear q1
                  try clear hx1
                  try clear p2
                  try clear c4
                  try clear c4b0
                  try clear c5
                  try clear c5b0
                  try clear p6
                  try clear q6
                  try clear hx6
                  try clear c7
                  try clear c8
                  try clear c8b0
                  try clear c9
                  try clear c9b0
                  try clear p10
                  try clear q10
                  try clear hx10
                  try clear c12
                  try clear c12b0
                  try clear p10
                  try clear p2
                  try clear p6
                  try clear q10
                  try clear q6
                  obtain ⟨kq, x33_10, rfl, HA, HJ10, HO_8, HB⟩ := hcut
                  cases kq with
                  | zero => exact absurd HA.out (by simp [token_text.j2])
                  | succ kj10 =>
                    have H := HA.out
                    clear HA
                    simp only [token_text.j2] at H
                    by_cases c13 : x33_10 = true
                    · subst c13
                      have H1 : (some ((⟨#[]⟩ : ByteArray), 0, x9_1, 9)) = some (r1, r2, r3, r4) := by rw [if_pos rfl] at H; exact H
                      clear H
                      have H := H1
                      clear H1
                      simp only [Option.some.injEq, Prod.mk.injEq] at H
                      obtain ⟨rfl, rfl, rfl, rfl⟩ := H
                      go_wp2
                      refine bodyPost_ret (results_list (rs := [.tmp 4, .tmp 5, .tmp 6, .tmp 7]) rfl (by simp) (.tmp (.tmp (.tmp (.tmp .nil))))) rfl ?_
                      exact ⟨by first | rfl | (simp [errW_none, errW_some] <;> rfl) | (simp [*, errW_none, errW_some] <;> rfl), by repeat (first | (with_reducible first | exact HB.out | apply below_alloc | apply pw_below_drewN | apply below_drew1) | exact HB.out)⟩
                    · replace c13 := Bool.eq_false_iff.mpr c13
                      subst c13
                      have H1 : (if (bt a0 x9_1) = 92 then (if (wrap64 (x9_1 + 1)) = (a0.size : Int) then (if (wrap64 (x9_1 + 1)) ≥ (a0.size : Int) then (some ((⟨#[]⟩ : ByteArray), 0, (a0.size : Int), 4)) else (some (strOfNums x8_1, wrap64 ((wrap64 (x9_1 + 1)) + 1), 0, 0))) else (if 0 ≤ (wrap64 (x9_1 + 1)) then (if (wrap64 (x9_1 + 1)) < (a0.size : Int) then (if (bt a0 (wrap64 (x9_1 + 1))) = 34 then (token_text.j3 kj10 a0 a1 x8_1 (wrap64 (x9_1 + 1)) (bt a0 (wrap64 (x9_1 + 1))) ((bt a0 (wrap64 (x9_1 + 1))) == 34)) else (token_text.j3 kj10 a0 a1 x8_1 (wrap64 (x9_1 + 1)) (bt a0 (wrap64 (x9_1 + 1))) ((bt a0 (wrap64 (x9_1 + 1))) == 92))) else (none)) else (none))) else (if (x8_1.length : Int) = 4095 then (some ((⟨#[]⟩ : ByteArray), 0, a1, 2)) else (if x8_1.length < 140737488355328 then (token_text.l0 kj10 a0 a1 (x8_1 ++ [(bt a0 x9_1)]) (wrap64 (x9_1 + 1))) else (none)))) = some (r1, r2, r3, r4) := by rw [if_neg (show ¬ (false = true) by decide)] at H; exact H
                      clear H
                      have H := H1
                      clear H1
                      by_cases c14 : (bt a0 x9_1) = 92
                      · rw [if_pos c14] at H
                        have c14b0 : ((bt a0 x9_1) == 92) = true := beq_iff_eq.mpr c14
                        have c14b1 : ((bt a0 x9_1) != 92) = false := bne_eq_false_iff_eq.mpr c14
                        clear c14
                        by_cases c15 : (wrap64 (x9_1 + 1)) = (a0.size : Int)
                        · rw [if_pos c15] at H
                          have c15b0 : ((wrap64 (x9_1 + 1)) == (a0.size : Int)) = true := beq_iff_eq.mpr c15
                          have c15b1 : ((wrap64 (x9_1 + 1)) != (a0.size : Int)) = false := bne_eq_false_iff_eq.mpr c15
                          clear c15
                          by_cases c16 : (wrap64 (x9_1 + 1)) ≥ (a0.size : Int)
                          · rw [if_pos c16] at H
                            have c16b0 : decide ((a0.size : Int) ≤ (wrap64 (x9_1 + 1))) = true := decide_eq_true c16
                            clear c16
                            simp only [Option.some.injEq, Prod.mk.injEq] at H
                            obtain ⟨rfl, rfl, rfl, rfl⟩ := H
                            go_wp2
                            refine bodyPost_ret (results_list (rs := [.tmp 4, .tmp 5, .tmp 6, .tmp 7]) rfl (by simp) (.tmp (.tmp (.tmp (.tmp .nil))))) rfl ?_
                            exact ⟨by first | rfl | (simp [errW_none, errW_some] <;> rfl) | (simp [*, errW_none, errW_some] <;> rfl), by repeat (first | (with_reducible first | exact HB.out | apply below_alloc | apply pw_below_drewN | apply below_drew1) | exact HB.out)⟩
                          · rw [if_neg c16] at H
                            have c16b0 : decide ((a0.size : Int) ≤ (wrap64 (x9_1 + 1))) = false := decide_eq_false c16
                            clear c16
                            simp only [Option.some.injEq, Prod.mk.injEq] at H
                            obtain ⟨rfl, rfl, rfl, rfl⟩ := H
                            have hcv17 := own_string (P := Try.prog) Try.underlying81 Try.underlying5 Try.underlying9 (Kd.own_of_R HO_8.out)
                            go_wp2
                            refine bodyPost_ret (results_list (rs := [.tmp 4, .tmp 5, .tmp 6, .tmp 7]) rfl (by simp) (.tmp (.tmp (.tmp (.tmp .nil))))) rfl ?_
                            exact ⟨by first | rfl | (simp [errW_none, errW_some] <;> rfl) | (simp [*, errW_none, errW_some] <;> rfl), by repeat (first | (with_reducible first | exact HB.out | apply below_alloc | apply pw_below_drewN | apply below_drew1) | exact HB.out)⟩
                        · rw [if_neg c15] at H
                          have c15b0 : ((wrap64 (x9_1 + 1)) == (a0.size : Int)) = false := beq_eq_false_iff_ne.mpr c15
                          have c15b1 : ((wrap64 (x9_1 + 1)) != (a0.size : Int)) = true := bne_iff_ne.mpr c15
                          obtain ⟨ji18, hji18⟩ : ∃ j_ : Int, (wrap64 (x9_1 + 1)) = j_ := ⟨_, rfl⟩
                          replace H : (if 0 ≤ (ji18) then (if (ji18) < (a0.size : Int) then (if (bt a0 (ji18)) = 34 then (token_text.j3 kj10 a0 a1 x8_1 ji18 (bt a0 (ji18)) ((bt a0 (ji18)) == 34)) else (token_text.j3 kj10 a0 a1 x8_1 ji18 (bt a0 (ji18)) ((bt a0 (ji18)) == 92))) else (none)) else (none)) = some (r1, r2, r3, r4) := by first | (rw [hji18] at H; exact H) | (simp only [hji18] at H ⊢; exact H)
                          (try rw [hji18] at c15b0)
                          (try rw [hji18] at c15b1)
                          have hji18w : (IntKind.i64.wrap (x9_1 + 1)) = ji18 := (i64_w _).trans hji18
                          by_cases c19 : 0 ≤ (ji18)
                          · rw [if_pos c19] at H
                            have c19b0 : decide (0 ≤ (ji18)) = true := decide_eq_true c19
                            clear c19
                            by_cases c20 : (ji18) < (a0.size : Int)
                            · rw [if_pos c20] at H
                              have c20b0 : decide ((ji18) < (a0.size : Int)) = true := decide_eq_true c20
                              clear c20
                              have HC22 := Aside0.mk H
                              clear H
                              have p21 : 0 ≤ ((ji18) : Int) := of_decide_eq_true (by first | (with_reducible assumption) | assumption)
                              have q21 : (ji18) < (a0.size : Int) := of_decide_eq_true (by first | (with_reducible assumption) | assumption)
                              have hx21 := bt_at a0 (ji18)
                              replace p21 := eq_true p21
                              replace q21 := eq_true q21
                              go_upto_if 47 with (fail)
                              go_cut [47] (fun v47 wc => ∃ (kq : Nat) (x47_21 : Bool), v47 = .bool x47_21 ∧ Aside0 (token_text.j3 kq a0 a1 x8_1 ji18 (bt a0 (ji18)) x47_21 = some (r1, r2, r3, r4)) ∧ Aside0 (kq ≤ kj10) ∧ Aside0 (Kd.R (Kd.int .u8) 5 wc w.heap.size (fun _ => True) u8 x8_1) ∧ Aside0 (Below w.heap.size w wc))
                              case first =>
                                have H := HC22.out
                                clear HC22
                                by_cases c23 : (bt a0 (ji18)) = 34
                                · rw [if_pos c23] at H
                                  have c23b0 : ((bt a0 (ji18)) == 34) = true := beq_iff_eq.mpr c23
                                  have c23b1 : ((bt a0 (ji18)) != 34) = false := bne_eq_false_iff_eq.mpr c23
                                  clear c23
                                  (first | rw [c23b0] | (simp only [i64_w, i32_w]; rw [c23b0]) | rw [c23b1] | skip)
                                  have H' := Aside0.mk H
                                  clear H
                                  go_wp2
                                  go_meet
                                  case rel => exact ⟨_, (((bt a0 (ji18)) == 34)), (by first | rfl | (simp; done) | (simp only [← hji18] <;> (first | rfl | (simp; done))) | (simp [*]; done)), H', ⟨by have := HK1.out; have := HJ2.out; have := HJ10.out; first | omega | exact Nat.le_refl _⟩, ⟨by (with_reducible repeat (first | apply Kd.R_alloc | apply Kd.R_drewN | apply Kd.R_drew)); exact HO_8.out⟩, ⟨by repeat (first | (with_reducible first | exact HB.out | apply below_alloc | apply pw_below_drewN | apply below_drew1) | exact HB.out)⟩⟩
                                · rw [if_neg c23] at H
                                  have c23b0 : ((bt a0 (ji18)) == 34) = false := beq_eq_false_iff_ne.mpr c23
                                  have c23b1 : ((bt a0 (ji18)) != 34) = true := bne_iff_ne.mpr c23
                                  (first | rw [c23b0] | (simp only [i64_w, i32_w]; rw [c23b0]) | rw [c23b1] | skip)
                                  have H' := Aside0.mk H
                                  clear H
                                  go_wp2
                                  go_meet
                                  case rel => exact ⟨_, (((bt a0 (ji18)) == 92)), (by first | rfl | (simp; done) | (simp only [← hji18] <;> (first | rfl | (simp; done))) | (simp [*]; done)), H', ⟨by have := HK1.out; have := HJ2.out; have := HJ10.out; first | omega | exact Nat.le_refl _⟩, ⟨by (with_reducible repeat (first | apply Kd.R_alloc | apply Kd.R_drewN | apply Kd.R_drew)); exact HO_8.out⟩, ⟨by repeat (first | (with_reducible first | exact HB.out | apply below_alloc | apply pw_below_drewN | apply below_drew1) | exact HB.out)⟩⟩
                              case rest =>
                                clear HC22
                                try clear c1
                                try clear p1
                                try clear q1
                                try clear hx1
                                try clear hcv1
                                try clear c2
                                try clear p2
                                try clear q2
                                try clear hx2
                                try clear c4
                                try clear c4b0
                                try clear c5
                                try clear c5b0
                                try clear p6
                                try clear q6
                                try clear hx6
                                try clear c7
                                try clear c8
                                try clear c8b0
                                try clear c9
                                try clear c9b0
                                try clear p10
                                try clear q10
                                try clear hx10
                                try clear c12
                                try clear c12b0
                                try clear c13
                                try clear c14
                                try clear c14b0
                                try clear c14b1
                                try clear c15
                                try clear c15b0
                                try clear c15b1
                                try clear c16
                                try clear c16b0
                                try clear hcv17
                                try clear c19
                                try clear c19b0
                                try clear c20
                                try clear c20b0
                                try clear p21
                                try clear q21
                                try clear hx21
                                try clear c23
                                try clear c23b0
                                try clear c23b1
                                try clear p1
                                try clear p10
                                try clear p2
                                try clear p21
                                try clear p6
                                try clear q1
                                try clear q10
                                try clear q21
                                try clear q6
                                obtain ⟨kq, x47_21, rfl, HA, HJ21, HO_8, HB⟩ := hcut
                                cases kq with
                                | zero => exact absurd HA.out (by simp [token_text.j3])
                                | succ kj21 =>
                                  have H := HA.out
                                  clear HA
                                  simp only [token_text.j3] at H
                                  by_cases c24 : x47_21 = true
                                  · subst c24
                                    have H1 : (if 0 ≤ ji18 then (if ji18 < (a0.size : Int) then (if (x8_1.length : Int) = 4095 then (some ((⟨#[]⟩ : ByteArray), 0, a1, 2)) else (if x8_1.length < 140737488355328 then (token_text.l0 kj21 a0 a1 (x8_1 ++ [bt a0 ji18]) (wrap64 (ji18 + 1))) else (none))) else (none)) else (none)) = some (r1, r2, r3, r4) := by rw [if_pos rfl] at H; exact H
                                    clear H
                                    have H := H1
                                    clear H1
                                    by_cases c25 : 0 ≤ ji18
                                    · rw [if_pos c25] at H
                                      have c25b0 : decide (0 ≤ ji18) = true := decide_eq_true c25
                                      clear c25
                                      by_cases c26 : ji18 < (a0.size : Int)
                                      · rw [if_pos c26] at H
                                        have c26b0 : decide (ji18 < (a0.size : Int)) = true := decide_eq_true c26
                                        clear c26
                                        by_cases c28 : (x8_1.length : Int) = 4095
                                        · rw [if_pos c28] at H
                                          have c28b0 : ((x8_1.length : Int) == 4095) = true := beq_iff_eq.mpr c28
                                          have c28b1 : ((x8_1.length : Int) != 4095) = false := bne_eq_false_iff_eq.mpr c28
                                          clear c28
                                          simp only [Option.some.injEq, Prod.mk.injEq] at H
                                          obtain ⟨rfl, rfl, rfl, rfl⟩ := H
                                          have p27 : 0 ≤ (ji18 : Int) := of_decide_eq_true (by first | (with_reducible assumption) | assumption)
                                          have q27 : ji18 < (a0.size : Int) := of_decide_eq_true (by first | (with_reducible assumption) | assumption)
                                          have hx27 := bt_at a0 ji18
                                          replace p27 := eq_true p27
                                          replace q27 := eq_true q27
                                          obtain ⟨Ao29, co29, eo29⟩ := Kd.R_slice HO_8.out
                                          subst eo29
                                          go_wp2
                                          refine bodyPost_ret (results_list (rs := [.tmp 4, .tmp 5, .tmp 6, .tmp 7]) rfl (by simp) (.tmp (.tmp (.tmp (.tmp .nil))))) rfl ?_
                                          exact ⟨by first | rfl | (simp [errW_none, errW_some] <;> rfl) | (simp only [← hji18]; first | rfl | (simp [errW_none, errW_some] <;> rfl)) | (simp [*, errW_none, errW_some] <;> rfl), by repeat (first | (with_reducible first | exact HB.out | apply below_alloc | apply pw_below_drewN | apply below_drew1) | exact HB.out)⟩
                                        · rw [if_neg c28] at H
                                          have c28b0 : ((x8_1.length : Int) == 4095) = false := beq_eq_false_iff_ne.mpr c28
                                          have c28b1 : ((x8_1.length : Int) != 4095) = true := bne_iff_ne.mpr c28
                                          by_cases c30 : x8_1.length < 140737488355328
                                          · rw [if_pos c30] at H
                                            have LMc30 := Aside0.mk c30
                                            clear c30
                                            obtain ⟨y105, hy105⟩ : ∃ y_ : List Int, y_ = (x8_1 ++ [bt a0 ji18]) := ⟨_, rfl⟩
                                            replace H : (token_text.l0 kj21 a0 a1 y105 (wrap64 (ji18 + 1))) = some (r1, r2, r3, r4) := by first | (rw [hy105]; with_reducible exact H) | (have H2_ := (Option.bind_some _ _).symm.trans H; rw [hy105]; with_reducible exact H2_) | (have H2_ := (Option.bind_some _ _).symm.trans H; with_reducible exact H2_) | with_reducible exact H | (rw [hy105]; exact H) | exact H
                                            have Ny105 := Aside0.mk hy105
                                            clear hy105
                                            have H' := Aside0.mk H
                                            clear H
                                            have p27 : 0 ≤ (ji18 : Int) := of_decide_eq_true (by first | (with_reducible assumption) | assumption)
                                            have q27 : ji18 < (a0.size : Int) := of_decide_eq_true (by first | (with_reducible assumption) | assumption)
                                            have hx27 := bt_at a0 ji18
                                            replace p27 := eq_true p27
                                            replace q27 := eq_true q27
                                            obtain ⟨Ao31, co31, eo31⟩ := Kd.R_slice HO_8.out
                                            subst eo31
                                            go_wp2_with (first | ((with_reducible refine gate_builtin (b := .append) (xs := #[.tmp 86, .tmp 88]) rfl ?_); at_builtin; refine Kd.R_append (Kd.int .u8) (w0 := w) w.heap.size rfl (.tmp 86) (.tmp 88) 81 5 (.int .u8 0) 1 rfl Try.underlying81 info5 rfl (by decide) (by omega) (.slice Ao31 x8_1.length co31) x8_1 (bt a0 ji18) [.int .u8 (bt a0 ji18)] (fun _ => True) (fun _ => False) rfl rfl ?aP (fun _ hk => hk.elim) ?aF ?aO ?aB ?aS ?aL ?_; (case aP => exact rfl); (case aB => exact (by repeat (first | (with_reducible first | exact HB.out | apply below_alloc | apply pw_below_drewN | apply below_drew1) | exact HB.out))); (case aF => exact (fun _ _ => trivial)); (case aO => exact (by (with_reducible repeat (first | apply Kd.R_alloc | apply Kd.R_drewN | apply Kd.R_drew)); exact HO_8.out)); (case aS => exact (below_size (by repeat (first | (with_reducible first | exact HB.out | apply below_alloc | apply pw_below_drewN | apply below_drew1) | exact HB.out)))); (case aL => have := LMc30.out; omega); intro v106 w32 ho hb hg hat; rw [← Ny105.out] at ho; have n0_ := Aside0.mk (hb); have n1_ := Aside0.mk (ho); clear HB; clear HO_8; have HB := n0_; have HO107 := n1_; clear n0_ n1_; clear ho hb hg hat))
                                            go_roundg kj21
                                            case measure => have := HK1.out; have := HJ2.out; have := HJ10.out; have := HJ21.out; omega
                                            case rel => exact ⟨(y105), (wrap64 (ji18 + 1)), (by first | rfl | (simp; done) | (simp only [← hji18] <;> (first | rfl | (simp; done))) | (simp [*]; done)), H', ⟨by have := HK1.out; have := HJ2.out; have := HJ10.out; have := HJ21.out; omega⟩, ⟨by (with_reducible repeat (first | apply Kd.R_alloc | apply Kd.R_drewN | apply Kd.R_drew)); exact HO107.out⟩, ⟨by repeat (first | (with_reducible first | exact HB.out | apply below_alloc | apply pw_below_drewN | apply below_drew1) | exact HB.out)⟩⟩
                                          · rw [if_neg c30] at H
                                            exact absurd H (by simp)
                                      · rw [if_neg c26] at H
                                        exact absurd H (by simp)
                                    · rw [if_neg c25] at H
                                      exact absurd H (by simp)
                                  · replace c24 := Bool.eq_false_iff.mpr c24
                                    subst c24
                                    have H1 : (if (bt a0 (ji18)) = 110 then (if (x8_1.length : Int) = 4095 then (some ((⟨#[]⟩ : ByteArray), 0, a1, 2)) else (if x8_1.length < 140737488355328 then (token_text.l0 kj21 a0 a1 (x8_1 ++ [10]) (wrap64 (ji18 + 1))) else (none))) else (if (bt a0 (ji18)) = 120 then (token_text.l1 kj21 a0 a1 x8_1 ji18 0 0) else (some ((⟨#[]⟩ : ByteArray), 0, ji18, 9)))) = some (r1, r2, r3, r4) := by rw [if_neg (show ¬ (false = true) by decide)] at H; exact H
                                    clear H
                                    have H := H1
                                    clear H1
                                    by_cases c33 : (bt a0 (ji18)) = 110
                                    · rw [if_pos c33] at H
                                      have c33b0 : ((bt a0 (ji18)) == 110) = true := beq_iff_eq.mpr c33
                                      have c33b1 : ((bt a0 (ji18)) != 110) = false := bne_eq_false_iff_eq.mpr c33
                                      clear c33
                                      by_cases c34 : (x8_1.length : Int) = 4095
                                      · rw [if_pos c34] at H
                                        have c34b0 : ((x8_1.length : Int) == 4095) = true := beq_iff_eq.mpr c34
                                        have c34b1 : ((x8_1.length : Int) != 4095) = false := bne_eq_false_iff_eq.mpr c34
                                        clear c34
                                        simp only [Option.some.injEq, Prod.mk.injEq] at H
                                        obtain ⟨rfl, rfl, rfl, rfl⟩ := H
                                        obtain ⟨Ao35, co35, eo35⟩ := Kd.R_slice HO_8.out
                                        subst eo35
                                        go_wp2
                                        refine bodyPost_ret (results_list (rs := [.tmp 4, .tmp 5, .tmp 6, .tmp 7]) rfl (by simp) (.tmp (.tmp (.tmp (.tmp .nil))))) rfl ?_
                                        exact ⟨by first | rfl | (simp [errW_none, errW_some] <;> rfl) | (simp only [← hji18]; first | rfl | (simp [errW_none, errW_some] <;> rfl)) | (simp [*, errW_none, errW_some] <;> rfl), by repeat (first | (with_reducible first | exact HB.out | apply below_alloc | apply pw_below_drewN | apply below_drew1) | exact HB.out)⟩
                                      · rw [if_neg c34] at H
                                        have c34b0 : ((x8_1.length : Int) == 4095) = false := beq_eq_false_iff_ne.mpr c34
                                        have c34b1 : ((x8_1.length : Int) != 4095) = true := bne_iff_ne.mpr c34
                                        by_cases c36 : x8_1.length < 140737488355328
                                        · rw [if_pos c36] at H
                                          have LMc36 := Aside0.mk c36
                                          clear c36
                                          obtain ⟨y108, hy108⟩ : ∃ y_ : List Int, y_ = (x8_1 ++ [10]) := ⟨_, rfl⟩
                                          replace H : (token_text.l0 kj21 a0 a1 y108 (wrap64 (ji18 + 1))) = some (r1, r2, r3, r4) := by first | (rw [hy108]; with_reducible exact H) | (have H2_ := (Option.bind_some _ _).symm.trans H; rw [hy108]; with_reducible exact H2_) | (have H2_ := (Option.bind_some _ _).symm.trans H; with_reducible exact H2_) | with_reducible exact H | (rw [hy108]; exact H) | exact H
                                          have Ny108 := Aside0.mk hy108
                                          clear hy108
                                          have H' := Aside0.mk H
                                          clear H
                                          obtain ⟨Ao37, co37, eo37⟩ := Kd.R_slice HO_8.out
                                          subst eo37
                                          go_wp2_with (first | ((with_reducible refine gate_builtin (b := .append) (xs := #[.tmp 86, .tmp 88]) rfl ?_); at_builtin; refine Kd.R_append (Kd.int .u8) (w0 := w) w.heap.size rfl (.tmp 86) (.tmp 88) 81 5 (.int .u8 0) 1 rfl Try.underlying81 info5 rfl (by decide) (by omega) (.slice Ao37 x8_1.length co37) x8_1 10 [.int .u8 10] (fun _ => True) (fun _ => False) rfl rfl ?aP (fun _ hk => hk.elim) ?aF ?aO ?aB ?aS ?aL ?_; (case aP => exact rfl); (case aB => exact (by repeat (first | (with_reducible first | exact HB.out | apply below_alloc | apply pw_below_drewN | apply below_drew1) | exact HB.out))); (case aF => exact (fun _ _ => trivial)); (case aO => exact (by (with_reducible repeat (first | apply Kd.R_alloc | apply Kd.R_drewN | apply Kd.R_drew)); exact HO_8.out)); (case aS => exact (below_size (by repeat (first | (with_reducible first | exact HB.out | apply below_alloc | apply pw_below_drewN | apply below_drew1) | exact HB.out)))); (case aL => have := LMc36.out; omega); intro v109 w38 ho hb hg hat; rw [← Ny108.out] at ho; have n0_ := Aside0.mk (hb); have n1_ := Aside0.mk (ho); clear HB; clear HO_8; have HB := n0_; have HO110 := n1_; clear n0_ n1_; clear ho hb hg hat))
                                          go_roundg kj21
                                          case measure => have := HK1.out; have := HJ2.out; have := HJ10.out; have := HJ21.out; omega
                                          case rel => exact ⟨(y108), (wrap64 (ji18 + 1)), (by first | rfl | (simp; done) | (simp only [← hji18] <;> (first | rfl | (simp; done))) | (simp [*]; done)), H', ⟨by have := HK1.out; have := HJ2.out; have := HJ10.out; have := HJ21.out; omega⟩, ⟨by (with_reducible repeat (first | apply Kd.R_alloc | apply Kd.R_drewN | apply Kd.R_drew)); exact HO110.out⟩, ⟨by repeat (first | (with_reducible first | exact HB.out | apply below_alloc | apply pw_below_drewN | apply below_drew1) | exact HB.out)⟩⟩
                                        · rw [if_neg c36] at H
                                          exact absurd H (by simp)
                                    · rw [if_neg c33] at H
                                      have c33b0 : ((bt a0 (ji18)) == 110) = false := beq_eq_false_iff_ne.mpr c33
                                      have c33b1 : ((bt a0 (ji18)) != 110) = true := bne_iff_ne.mpr c33
                                      by_cases c39 : (bt a0 (ji18)) = 120
                                      · rw [if_pos c39] at H
                                        have c39b0 : ((bt a0 (ji18)) == 120) = true := beq_iff_eq.mpr c39
                                        have c39b1 : ((bt a0 (ji18)) != 120) = false := bne_eq_false_iff_eq.mpr c39
                                        clear c39
                                        have H' := Aside0.mk H
                                        clear H
                                        go_wp2
                                        go_loopg [9, 11, 57] kj21 (fun kq v9 v11 v57 w' => ∃ (x9_5 : Int) (x11_5 : Int) (x57_5 : Int), v9 = .int .i64 x9_5 ∧ v11 = .int .i64 x11_5 ∧ v57 = .int .i64 x57_5 ∧ Aside0 (token_text.l1 kq a0 a1 x8_1 x9_5 x11_5 x57_5 = some (r1, r2, r3, r4)) ∧ Aside0 (kq ≤ kj21) ∧ Aside0 (Kd.R (Kd.int .u8) 5 w' w.heap.size (fun _ => True) u8 x8_1) ∧ Aside0 (Below w.heap.size w w'))
                                        case atStart => exact ⟨(ji18), (0), (0), (by first | rfl | (simp; done) | (simp only [← hji18] <;> (first | rfl | (simp; done))) | (simp [*]; done)), (by first | rfl | (simp; done) | (simp [*]; done)), (by first | rfl | (simp; done) | (simp [*]; done)), H', ⟨Nat.le_refl _⟩, ⟨by (with_reducible repeat (first | apply Kd.R_alloc | apply Kd.R_drewN | apply Kd.R_drew)); exact HO_8.out⟩, ⟨by repeat (first | (with_reducible first | exact HB.out | apply below_alloc | apply pw_below_drewN | apply below_drew1) | exact HB.out)⟩⟩
                                        case round =>
                                          clear H'
                                          try clear c1
                                          try clear p1
                                          try clear q1
                                          try clear hx1
                                          try clear hcv1
                                          try clear c2
                                          try clear p2
                                          try clear q2
                                          try clear hx2
                                          try clear c3
                                          try clear c4
                                          try clear c4b0
                                          try clear c5
                                          try clear c5b0
                                          try clear p6
                                          try clear q6
                                          try clear hx6
                                          try clear c7
                                          try clear c8
                                          try clear c8b0
                                          try clear c9
                                          try clear c9b0
                                          try clear p10
                                          try clear q10
                                          try clear hx10
                                          try clear c12
                                          try clear c12b0
                                          try clear c13
                                          try clear c14
                                          try clear c14b0
                                          try clear c14b1
                                          try clear c15
                                          try clear c15b0
                                          try clear c15b1
                                          try clear c16
                                          try clear c16b0
                                          try clear hcv17
                                          try clear c19
                                          try clear c19b0
                                          try clear c20
                                          try clear c20b0
                                          try clear p21
                                          try clear q21
                                          try clear hx21
                                          try clear c23
                                          try clear c23b0
                                          try clear c23b1
                                          try clear c24
                                          try clear c25
                                          try clear c25b0
                                          try clear c26
                                          try clear c26b0
                                          try clear p27
                                          try clear q27
                                          try clear hx27
                                          try clear c28
                                          try clear c28b0
                                          try clear c28b1
                                          try clear c30
                                          try clear c33
                                          try clear c33b0
                                          try clear c33b1
                                          try clear c34
                                          try clear c34b0
                                          try clear c34b1
                                          try clear c36
                                          try clear c39
                                          try clear c39b0
                                          try clear c39b1
                                          try clear p1
                                          try clear p10
                                          try clear p2
                                          try clear p21
                                          try clear p27
                                          try clear p6
                                          try clear q1
                                          try clear q10
                                          try clear q2
                                          try clear q21
                                          try clear q27
                                          try clear q6
                                          obtain ⟨x9_5, x11_5, x57_5, rfl, rfl, rfl, HA, HK5, HO_8, HB⟩ := hrel
                                          cases gk with
                                          | zero => exact absurd HA.out (by simp [token_text.l1])
                                          | succ k5 =>
                                            have H := HA.out
                                            clear HA
                                            simp only [token_text.l1] at H
                                            by_cases c40 : x57_5 < 2
                                            · rw [if_pos c40] at H
                                              have c40b0 : decide (x57_5 < 2) = true := decide_eq_true c40
                                              clear c40
                                              by_cases c41 : (wrap64 (x9_5 + 1)) = (a0.size : Int)
                                              · rw [if_pos c41] at H
                                                have c41b0 : ((wrap64 (x9_5 + 1)) == (a0.size : Int)) = true := beq_iff_eq.mpr c41
                                                have c41b1 : ((wrap64 (x9_5 + 1)) != (a0.size : Int)) = false := bne_eq_false_iff_eq.mpr c41
                                                clear c41
                                                simp only [Option.some.injEq, Prod.mk.injEq] at H
                                                obtain ⟨rfl, rfl, rfl, rfl⟩ := H
                                                go_wp2
                                                refine bodyPost_ret (results_list (rs := [.tmp 4, .tmp 5, .tmp 6, .tmp 7]) rfl (by simp) (.tmp (.tmp (.tmp (.tmp .nil))))) rfl ?_
                                                exact ⟨by first | rfl | (simp [errW_none, errW_some] <;> rfl) | (simp only [← hji18]; first | rfl | (simp [errW_none, errW_some] <;> rfl)) | (simp [*, errW_none, errW_some] <;> rfl), by repeat (first | (with_reducible first | exact HB.out | apply below_alloc | apply pw_below_drewN | apply below_drew1) | exact HB.out)⟩
                                              · rw [if_neg c41] at H
                                                have c41b0 : ((wrap64 (x9_5 + 1)) == (a0.size : Int)) = false := beq_eq_false_iff_ne.mpr c41
                                                have c41b1 : ((wrap64 (x9_5 + 1)) != (a0.size : Int)) = true := bne_iff_ne.mpr c41
                                                obtain ⟨ji42, hji42⟩ : ∃ j_ : Int, (wrap64 (x9_5 + 1)) = j_ := ⟨_, rfl⟩
                                                replace H : (if 0 ≤ (ji42) then (if (ji42) < (a0.size : Int) then ((strings_IndexByte.f (⟨#[48, 49, 50, 51, 52, 53, 54, 55, 56, 57, 97, 98, 99, 100, 101, 102]⟩ : ByteArray) (bt a0 (ji42))).bind fun t114 => (if t114 < 0 then (some ((⟨#[]⟩ : ByteArray), 0, ji42, 9)) else (token_text.l1 k5 a0 a1 x8_1 ji42 (wrap64 ((wrap64 (16 * x11_5)) + t114)) (wrap64 (x57_5 + 1))))) else (none)) else (none)) = some (r1, r2, r3, r4) := by first | (rw [hji42] at H; exact H) | (simp only [hji42] at H ⊢; exact H)
                                                (try rw [hji42] at c41b0)
                                                (try rw [hji42] at c41b1)
                                                have hji42w : (IntKind.i64.wrap (x9_5 + 1)) = ji42 := (i64_w _).trans hji42
                                                by_cases c43 : 0 ≤ (ji42)
                                                · rw [if_pos c43] at H
                                                  have c43b0 : decide (0 ≤ (ji42)) = true := decide_eq_true c43
                                                  clear c43
                                                  by_cases c44 : (ji42) < (a0.size : Int)
                                                  · rw [if_pos c44] at H
                                                    have c44b0 : decide ((ji42) < (a0.size : Int)) = true := decide_eq_true c44
                                                    clear c44
                                                    replace H := Option.bind_eq_some_iff.mp H
                                                    obtain ⟨t114, A460, H⟩ := H
                                                    replace H : (if t114 < 0 then (some ((⟨#[]⟩ : ByteArray), 0, ji42, 9)) else (token_text.l1 k5 a0 a1 x8_1 ji42 (wrap64 ((wrap64 (16 * x11_5)) + t114)) (wrap64 (x57_5 + 1)))) = some (r1, r2, r3, r4) := H
                                                    have A46 := Aside0.mk A460
                                                    clear A460
                                                    by_cases c47 : t114 < 0
                                                    · rw [if_pos c47] at H
                                                      have c47b0 : decide (t114 < 0) = true := decide_eq_true c47
                                                      clear c47
                                                      simp only [Option.some.injEq, Prod.mk.injEq] at H
                                                      obtain ⟨rfl, rfl, rfl, rfl⟩ := H
                                                      have p45 : 0 ≤ ((ji42) : Int) := of_decide_eq_true (by first | (with_reducible assumption) | assumption)
                                                      have q45 : (ji42) < (a0.size : Int) := of_decide_eq_true (by first | (with_reducible assumption) | assumption)
                                                      have hx45 := bt_at a0 (ji42)
                                                      replace p45 := eq_true p45
                                                      replace q45 := eq_true q45
                                                      go_wp2_with (first | ((with_reducible refine gate_callee (f := 44) rfl ?_); refine goesL_ (some 69) rfl rfl Try.func44 (by kernel_rfl) rfl #[.string (⟨#[48, 49, 50, 51, 52, 53, 54, 55, 56, 57, 97, 98, 99, 100, 101, 102]⟩ : ByteArray), .int .u8 (bt a0 (ji42))] rfl (by (try simp only [List.map_toArray, List.map_cons, List.map_nil]); first | done | (simp only [hji42]; rfl) | rfl | (simp only [List.length_drop, List.length_take]; rfl)) ?_; (with_reducible refine (strings_IndexByte.calls (⟨#[48, 49, 50, 51, 52, 53, 54, 55, 56, 57, 97, 98, 99, 100, 101, 102]⟩ : ByteArray) (bt a0 (ji42)) t114 _ A46.out).mono ?_); rintro e w' ⟨rfl, ⟨nd, rfl⟩⟩; refine ⟨_, rfl, ?_⟩))
                                                      refine bodyPost_ret (results_list (rs := [.tmp 4, .tmp 5, .tmp 6, .tmp 7]) rfl (by simp) (.tmp (.tmp (.tmp (.tmp .nil))))) rfl ?_
                                                      exact ⟨by first | rfl | (simp [errW_none, errW_some] <;> rfl) | (simp only [← hji18, ← hji42]; first | rfl | (simp [errW_none, errW_some] <;> rfl)) | (simp [*, errW_none, errW_some] <;> rfl), by repeat (first | (with_reducible first | exact HB.out | apply below_alloc | apply pw_below_drewN | apply below_drew1) | exact HB.out)⟩
                                                    · rw [if_neg c47] at H
                                                      have c47b0 : decide (t114 < 0) = false := decide_eq_false c47
                                                      clear c47
                                                      have H' := Aside0.mk H
                                                      clear H
                                                      have p45 : 0 ≤ ((ji42) : Int) := of_decide_eq_true (by first | (with_reducible assumption) | assumption)
                                                      have q45 : (ji42) < (a0.size : Int) := of_decide_eq_true (by first | (with_reducible assumption) | assumption)
                                                      have hx45 := bt_at a0 (ji42)
                                                      replace p45 := eq_true p45
                                                      replace q45 := eq_true q45
                                                      go_wp2_with (first | ((with_reducible refine gate_callee (f := 44) rfl ?_); refine goesL_ (some 69) rfl rfl Try.func44 (by kernel_rfl) rfl #[.string (⟨#[48, 49, 50, 51, 52, 53, 54, 55, 56, 57, 97, 98, 99, 100, 101, 102]⟩ : ByteArray), .int .u8 (bt a0 (ji42))] rfl (by (try simp only [List.map_toArray, List.map_cons, List.map_nil]); first | done | (simp only [hji42]; rfl) | rfl | (simp only [List.length_drop, List.length_take]; rfl)) ?_; (with_reducible refine (strings_IndexByte.calls (⟨#[48, 49, 50, 51, 52, 53, 54, 55, 56, 57, 97, 98, 99, 100, 101, 102]⟩ : ByteArray) (bt a0 (ji42)) t114 _ A46.out).mono ?_); rintro e w' ⟨rfl, ⟨nd, rfl⟩⟩; refine ⟨_, rfl, ?_⟩))
                                                      go_roundg k5
                                                      case measure => have := HK1.out; have := HJ2.out; have := HJ10.out; have := HJ21.out; have := HK5.out; omega
                                                      case rel => exact ⟨(ji42), (wrap64 ((wrap64 (16 * x11_5)) + t114)), (wrap64 (x57_5 + 1)), (by first | rfl | (simp; done) | (simp only [← hji42] <;> (first | rfl | (simp; done))) | (simp [*]; done)), (by first | rfl | (simp; done) | (simp [*]; done)), (by first | rfl | (simp; done) | (simp [*]; done)), H', ⟨by have := HK1.out; have := HJ2.out; have := HJ10.out; have := HJ21.out; have := HK5.out; omega⟩, ⟨by (with_reducible repeat (first | apply Kd.R_alloc | apply Kd.R_drewN | apply Kd.R_drew)); exact HO_8.out⟩, ⟨by repeat (first | (with_reducible first | exact HB.out | apply below_alloc | apply pw_below_drewN | apply below_drew1) | exact HB.out)⟩⟩
                                                  · rw [if_neg c44] at H
                                                    exact absurd H (by simp)
                                                · rw [if_neg c43] at H
                                                  exact absurd H (by simp)
                                            · rw [if_neg c40] at H
                                              have c40b0 : decide (x57_5 < 2) = false := decide_eq_false c40
                                              clear c40
                                              by_cases c48 : (x8_1.length : Int) = 4095
                                              · rw [if_pos c48] at H
                                                have c48b0 : ((x8_1.length : Int) == 4095) = true := beq_iff_eq.mpr c48
                                                have c48b1 : ((x8_1.length : Int) != 4095) = false := bne_eq_false_iff_eq.mpr c48
                                                clear c48
                                                simp only [Option.some.injEq, Prod.mk.injEq] at H
                                                obtain ⟨rfl, rfl, rfl, rfl⟩ := H
                                                obtain ⟨Ao49, co49, eo49⟩ := Kd.R_slice HO_8.out
                                                subst eo49
                                                go_wp2
                                                refine bodyPost_ret (results_list (rs := [.tmp 4, .tmp 5, .tmp 6, .tmp 7]) rfl (by simp) (.tmp (.tmp (.tmp (.tmp .nil))))) rfl ?_
                                                exact ⟨by first | rfl | (simp [errW_none, errW_some] <;> rfl) | (simp only [← hji18]; first | rfl | (simp [errW_none, errW_some] <;> rfl)) | (simp [*, errW_none, errW_some] <;> rfl), by repeat (first | (with_reducible first | exact HB.out | apply below_alloc | apply pw_below_drewN | apply below_drew1) | exact HB.out)⟩
                                              · rw [if_neg c48] at H
                                                have c48b0 : ((x8_1.length : Int) == 4095) = false := beq_eq_false_iff_ne.mpr c48
                                                have c48b1 : ((x8_1.length : Int) != 4095) = true := bne_iff_ne.mpr c48
                                                by_cases c50 : x8_1.length < 140737488355328
                                                · rw [if_pos c50] at H
                                                  have LMc50 := Aside0.mk c50
                                                  clear c50
                                                  obtain ⟨y111, hy111⟩ : ∃ y_ : List Int, y_ = (x8_1 ++ [(x11_5) % 256]) := ⟨_, rfl⟩
                                                  replace H : (token_text.l0 k5 a0 a1 y111 (wrap64 (x9_5 + 1))) = some (r1, r2, r3, r4) := by first | (rw [hy111]; with_reducible exact H) | (have H2_ := (Option.bind_some _ _).symm.trans H; rw [hy111]; with_reducible exact H2_) | (have H2_ := (Option.bind_some _ _).symm.trans H; with_reducible exact H2_) | with_reducible exact H | (rw [hy111]; exact H) | exact H
                                                  have Ny111 := Aside0.mk hy111
                                                  clear hy111
                                                  have H' := Aside0.mk H
                                                  clear H
                                                  obtain ⟨Ao51, co51, eo51⟩ := Kd.R_slice HO_8.out
                                                  subst eo51
                                                  go_wp2_with (first | ((with_reducible refine gate_builtin (b := .append) (xs := #[.tmp 86, .tmp 88]) rfl ?_); at_builtin; refine Kd.R_append (Kd.int .u8) (w0 := w) w.heap.size rfl (.tmp 86) (.tmp 88) 81 5 (.int .u8 0) 1 rfl Try.underlying81 info5 rfl (by decide) (by omega) (.slice Ao51 x8_1.length co51) x8_1 ((x11_5) % 256) [.int .u8 ((x11_5) % 256)] (fun _ => True) (fun _ => False) rfl rfl ?aP (fun _ hk => hk.elim) ?aF ?aO ?aB ?aS ?aL ?_; (case aP => exact rfl); (case aB => exact (by repeat (first | (with_reducible first | exact HB.out | apply below_alloc | apply pw_below_drewN | apply below_drew1) | exact HB.out))); (case aF => exact (fun _ _ => trivial)); (case aO => exact (by (with_reducible repeat (first | apply Kd.R_alloc | apply Kd.R_drewN | apply Kd.R_drew)); exact HO_8.out)); (case aS => exact (below_size (by repeat (first | (with_reducible first | exact HB.out | apply below_alloc | apply pw_below_drewN | apply below_drew1) | exact HB.out)))); (case aL => have := LMc50.out; omega); intro v112 w52 ho hb hg hat; rw [← Ny111.out] at ho; have n0_ := Aside0.mk (hb); have n1_ := Aside0.mk (ho); clear HB; clear HO_8; have HB := n0_; have HO113 := n1_; clear n0_ n1_; clear ho hb hg hat))
                                                  go_roundg k5
                                                  case measure => have := HK1.out; have := HJ2.out; have := HJ10.out; have := HJ21.out; have := HK5.out; omega
                                                  case rel => exact ⟨(y111), (wrap64 (x9_5 + 1)), (by first | rfl | (simp; done) | (simp [*]; done)), H', ⟨by have := HK1.out; have := HJ2.out; have := HJ10.out; have := HJ21.out; have := HK5.out; omega⟩, ⟨by (with_reducible repeat (first | apply Kd.R_alloc | apply Kd.R_drewN | apply Kd.R_drew)); exact HO113.out⟩, ⟨by repeat (first | (with_reducible first | exact HB.out | apply below_alloc | apply pw_below_drewN | apply below_drew1) | exact HB.out)⟩⟩
                                                · rw [if_neg c50] at H
                                                  exact absurd H (by simp)
                                      · rw [if_neg c39] at H
                                        have c39b0 : ((bt a0 (ji18)) == 120) = false := beq_eq_false_iff_ne.mpr c39
                                        have c39b1 : ((bt a0 (ji18)) != 120) = true := bne_iff_ne.mpr c39
                                        simp only [Option.some.injEq, Prod.mk.injEq] at H
                                        obtain ⟨rfl, rfl, rfl, rfl⟩ := H
                                        go_wp2
                                        refine bodyPost_ret (results_list (rs := [.tmp 4, .tmp 5, .tmp 6, .tmp 7]) rfl (by simp) (.tmp (.tmp (.tmp (.tmp .nil))))) rfl ?_
                                        exact ⟨by first | rfl | (simp [errW_none, errW_some] <;> rfl) | (simp only [← hji18]; first | rfl | (simp [errW_none, errW_some] <;> rfl)) | (simp [*, errW_none, errW_some] <;> rfl), by repeat (first | (with_reducible first | exact HB.out | apply below_alloc | apply pw_below_drewN | apply below_drew1) | exact HB.out)⟩
                            · rw [if_neg c20] at H
                              exact absurd H (by simp)
                          · rw [if_neg c19] at H
                            exact absurd H (by simp)
                      · rw [if_neg c14] at H
                        have c14b0 : ((bt a0 x9_1) == 92) = false := beq_eq_false_iff_ne.mpr c14
                        have c14b1 : ((bt a0 x9_1) != 92) = true := bne_iff_ne.mpr c14
                        by_cases c53 : (x8_1.length : Int) = 4095
                        · rw [if_pos c53] at H
                          have c53b0 : ((x8_1.length : Int) == 4095) = true := beq_iff_eq.mpr c53
                          have c53b1 : ((x8_1.length : Int) != 4095) = false := bne_eq_false_iff_eq.mpr c53
                          clear c53
                          simp only [Option.some.injEq, Prod.mk.injEq] at H
                          obtain ⟨rfl, rfl, rfl, rfl⟩ := H
                          obtain ⟨Ao54, co54, eo54⟩ := Kd.R_slice HO_8.out
                          subst eo54
                          go_wp2
                          refine bodyPost_ret (results_list (rs := [.tmp 4, .tmp 5, .tmp 6, .tmp 7]) rfl (by simp) (.tmp (.tmp (.tmp (.tmp .nil))))) rfl ?_
                          exact ⟨by first | rfl | (simp [errW_none, errW_some] <;> rfl) | (simp [*, errW_none, errW_some] <;> rfl), by repeat (first | (with_reducible first | exact HB.out | apply below_alloc | apply pw_below_drewN | apply below_drew1) | exact HB.out)⟩
                        · rw [if_neg c53] at H
                          have c53b0 : ((x8_1.length : Int) == 4095) = false := beq_eq_false_iff_ne.mpr c53
                          have c53b1 : ((x8_1.length : Int) != 4095) = true := bne_iff_ne.mpr c53
                          by_cases c55 : x8_1.length < 140737488355328
                          · rw [if_pos c55] at H
                            have LMc55 := Aside0.mk c55
                            clear c55
                            obtain ⟨y115, hy115⟩ : ∃ y_ : List Int, y_ = (x8_1 ++ [(bt a0 x9_1)]) := ⟨_, rfl⟩
                            replace H : (token_text.l0 kj10 a0 a1 y115 (wrap64 (x9_1 + 1))) = some (r1, r2, r3, r4) := by first | (rw [hy115]; with_reducible exact H) | (have H2_ := (Option.bind_some _ _).symm.trans H; rw [hy115]; with_reducible exact H2_) | (have H2_ := (Option.bind_some _ _).symm.trans H; with_reducible exact H2_) | with_reducible exact H | (rw [hy115]; exact H) | exact H
                            have Ny115 := Aside0.mk hy115
                            clear hy115
                            have H' := Aside0.mk H
                            clear H
                            obtain ⟨Ao56, co56, eo56⟩ := Kd.R_slice HO_8.out
                            subst eo56
                            go_wp2_with (first | ((with_reducible refine gate_builtin (b := .append) (xs := #[.tmp 86, .tmp 88]) rfl ?_); at_builtin; refine Kd.R_append (Kd.int .u8) (w0 := w) w.heap.size rfl (.tmp 86) (.tmp 88) 81 5 (.int .u8 0) 1 rfl Try.underlying81 info5 rfl (by decide) (by omega) (.slice Ao56 x8_1.length co56) x8_1 (bt a0 x9_1) [.int .u8 (bt a0 x9_1)] (fun _ => True) (fun _ => False) rfl rfl ?aP (fun _ hk => hk.elim) ?aF ?aO ?aB ?aS ?aL ?_; (case aP => exact rfl); (case aB => exact (by repeat (first | (with_reducible first | exact HB.out | apply below_alloc | apply pw_below_drewN | apply below_drew1) | exact HB.out))); (case aF => exact (fun _ _ => trivial)); (case aO => exact (by (with_reducible repeat (first | apply Kd.R_alloc | apply Kd.R_drewN | apply Kd.R_drew)); exact HO_8.out)); (case aS => exact (below_size (by repeat (first | (with_reducible first | exact HB.out | apply below_alloc | apply pw_below_drewN | apply below_drew1) | exact HB.out)))); (case aL => have := LMc55.out; omega); intro v116 w57 ho hb hg hat; rw [← Ny115.out] at ho; have n0_ := Aside0.mk (hb); have n1_ := Aside0.mk (ho); clear HB; clear HO_8; have HB := n0_; have HO117 := n1_; clear n0_ n1_; clear ho hb hg hat))
                            go_roundg kj10
                            case measure => have := HK1.out; have := HJ2.out; have := HJ10.out; omega
                            case rel => exact ⟨(y115), (wrap64 (x9_1 + 1)), (by first | rfl | (simp; done) | (simp [*]; done)), H', ⟨by have := HK1.out; have := HJ2.out; have := HJ10.out; omega⟩, ⟨by (with_reducible repeat (first | apply Kd.R_alloc | apply Kd.R_drewN | apply Kd.R_drew)); exact HO117.out⟩, ⟨by repeat (first | (with_reducible first | exact HB.out | apply below_alloc | apply pw_below_drewN | apply below_drew1) | exact HB.out)⟩⟩
                          · rw [if_neg c55] at H
                            exact absurd H (by simp)
              · rw [if_neg c9] at H
                exact absurd H (by simp)
            · rw [if_neg c8] at H
              exact absurd H (by simp)
          · replace c7 := Bool.eq_false_iff.mpr c7
            subst c7
            have H1 : (if x9_1 ≥ (a0.size : Int) then (some ((⟨#[]⟩ : ByteArray), 0, (a0.size : Int), 4)) else (some (strOfNums x8_1, wrap64 (x9_1 + 1), 0, 0))) = some (r1, r2, r3, r4) := by rw [if_neg (show ¬ (false = true) by decide)] at H; exact H
            clear H
            have H := H1
            clear H1
            by_cases c58 : x9_1 ≥ (a0.size : Int)
            · rw [if_pos c58] at H
              have c58b0 : decide ((a0.size : Int) ≤ x9_1) = true := decide_eq_true c58
              clear c58
              simp only [Option.some.injEq, Prod.mk.injEq] at H
              obtain ⟨rfl, rfl, rfl, rfl⟩ := H
              go_wp2
              refine bodyPost_ret (results_list (rs := [.tmp 4, .tmp 5, .tmp 6, .tmp 7]) rfl (by simp) (.tmp (.tmp (.tmp (.tmp .nil))))) rfl ?_
              exact ⟨by first | rfl | (simp [errW_none, errW_some] <;> rfl) | (simp [*, errW_none, errW_some] <;> rfl), by repeat (first | (with_reducible first | exact HB.out | apply below_alloc | apply pw_below_drewN | apply below_drew1) | exact HB.out)⟩
            · rw [if_neg c58] at H
              have c58b0 : decide ((a0.size : Int) ≤ x9_1) = false := decide_eq_false c58
              clear c58
              simp only [Option.some.injEq, Prod.mk.injEq] at H
              obtain ⟨rfl, rfl, rfl, rfl⟩ := H
              have hcv59 := own_string (P := Try.prog) Try.underlying81 Try.underlying5 Try.underlying9 (Kd.own_of_R HO_8.out)
              go_wp2
              refine bodyPost_ret (results_list (rs := [.tmp 4, .tmp 5, .tmp 6, .tmp 7]) rfl (by simp) (.tmp (.tmp (.tmp (.tmp .nil))))) rfl ?_
              exact ⟨by first | rfl | (simp [errW_none, errW_some] <;> rfl) | (simp [*, errW_none, errW_some] <;> rfl), by repeat (first | (with_reducible first | exact HB.out | apply below_alloc | apply pw_below_drewN | apply below_drew1) | exact HB.out)⟩
end Go.Proofs.Ytlbchdalimngjaa.P
namespace Go.Proofs.Ytlbchdalimngjaa.P
open Go.RowKit Go.Proofs.YtlbchdalimngjaaW.PrintWords Go.Proofs.YtlbchdalimngjaaW.PrintLast Go.Proofs.YtlbchdalimngjaaW.PrintMore
attribute [local go_sem] max2_int min2_int max_two min_two max_three min_three max_four min_four
set_option linter.unusedVariables false
set_option linter.unusedSimpArgs false
inductive Step07 where
  | skip (i : Int)
  | tok (x : S33) (i : Int)
  | bad (i e : Int)
def token_All.rem : Nat → ByteArray → Int → Option Int
  | 0, _, _ => none
  | k + 1, s, i => if i < (s.size : Int) then (if bt s i = 10 then some i else token_All.rem k s (wrap64 (i + 1))) else some i
def token_All.wd : Nat → ByteArray → Int → Option Int
  | 0, _, _ => none
  | k + 1, s, i => if i < (s.size : Int) then ((token_inner.f (bt s i)).bind fun b => if b = true then token_All.wd k s (wrap64 (i + 1)) else some i) else some i
def token_All.sg (s : ByteArray) (i c e : Int) : Option Step07 :=
  (strings_IndexByte.f (⟨#[40, 41, 123, 125, 91, 93, 44, 61, 60, 43, 45, 42, 47, 37, 33]⟩ : ByteArray) c).bind fun t =>
    if t < 0 then some (.bad i 9) else
    (strings_IndexByte.f (⟨#[61, 60, 33]⟩ : ByteArray) c).bind fun u =>
      if 0 ≤ u then (if e < (s.size : Int) then (if bt s e = 61 then some (.tok ⟨4, s.extract i.toNat (wrap64 (e + 1)).toNat, 0, i⟩ (wrap64 (e + 1))) else some (.tok ⟨4, s.extract i.toNat e.toNat, 0, i⟩ e)) else some (.tok ⟨4, s.extract i.toNat e.toNat, 0, i⟩ e))
      else some (.tok ⟨4, s.extract i.toNat e.toNat, 0, i⟩ e)
def token_All.one (k : Nat) (s : ByteArray) (i c e : Int) : Option Step07 :=
  if c = 32 then some (.skip (wrap64 (i + 1))) else
  if c = 10 then some (.skip (wrap64 (i + 1))) else
  if c = 35 then (token_All.rem k s i).bind fun j => some (.skip j) else
  (token_letter.f c).bind fun b => if b = true then
    ((token_All.wd k s e).bind fun j => if wrap64 (j - i) > 24 then some (.bad i 2) else if j ≤ (s.size : Int) then (if i ≤ j then some (.tok ⟨1, s.extract i.toNat j.toNat, 0, i⟩ j) else none) else none) else
  (token_digit.f c).bind fun b => if b = true then
    ((token_number.f k s i).bind fun q => if q.2.2.2 = 0 then some (.tok ⟨2, ⟨#[]⟩, q.1, i⟩ q.2.1) else some (.bad q.2.2.1 q.2.2.2)) else
  if c = 34 then ((token_text.f k s i).bind fun q => if q.2.2.2 = 0 then some (.tok ⟨3, q.1, 0, i⟩ q.2.1) else some (.bad q.2.2.1 q.2.2.2)) else
  if c = 33 then (if e = (s.size : Int) then some (.bad e 4) else if e < (s.size : Int) then (if bt s e = 61 then token_All.sg s i c e else some (.bad e 9)) else none) else
  token_All.sg s i c e
def token_All.l0 : Nat → ByteArray → List S33 → Int → Option (List S33 × Int × Int)
  | 0, _, _, _ => none
  | k + 1, s, l, i => if i < (s.size : Int) then (if 0 ≤ i then ((token_All.one k s i (bt s i) (wrap64 (i + 1))).bind fun
      | .skip j => token_All.l0 k s l j
      | .tok x j => if l.length < 3518437208883 then token_All.l0 k s (l ++ [x]) j else none
      | .bad a e => some ([], a, e)) else none) else some (l, 0, 0)
def token_All.f (k : Nat) (a0 : ByteArray) : Option (List S33 × Int × Int) := if (a0.size : Int) > 16384 then some (([] : List S33), 0, 2) else token_All.l0 k a0 [] 0
theorem token_All.rem_mono : ∀ k s i, LeO (token_All.rem k s i) (token_All.rem (k + 1) s i)
  | 0, _, _ => fun r h => by simp [token_All.rem] at h
  | k + 1, s, i => by
    have ih := token_All.rem_mono k
    unfold token_All.rem
    repeat' first | exact ih _ _ | exact LeO.refl _ | exact LeO.none _ | refine LeO.ite ?_ ?_ | refine LeO.bind ?_ (fun _ => ?_)
theorem token_All.wd_mono : ∀ k s i, LeO (token_All.wd k s i) (token_All.wd (k + 1) s i)
  | 0, _, _ => fun r h => by simp [token_All.wd] at h
  | k + 1, s, i => by
    have ih := token_All.wd_mono k
    unfold token_All.wd
    repeat' first | exact ih _ _ | exact LeO.refl _ | exact LeO.none _ | refine LeO.ite ?_ ?_ | refine LeO.bind ?_ (fun _ => ?_)
theorem token_All.one_mono (k : Nat) (s : ByteArray) (i c e : Int) : LeO (token_All.one k s i c e) (token_All.one (k + 1) s i c e) := by
  unfold token_All.one
  repeat' first | exact token_All.rem_mono _ _ _ | exact token_All.wd_mono _ _ _ | exact token_number.mono _ _ _ | exact token_text.mono _ _ _ | exact LeO.refl _ | exact LeO.none _ | refine LeO.ite ?_ ?_ | refine LeO.bind ?_ (fun _ => ?_)
theorem token_All.l0_mono : ∀ k s l i, LeO (token_All.l0 k s l i) (token_All.l0 (k + 1) s l i)
  | 0, _, _, _ => fun r h => by simp [token_All.l0] at h
  | k + 1, s, l, i => by
    have ih := token_All.l0_mono k
    rw [token_All.l0, token_All.l0]
    refine LeO.ite (LeO.ite (LeO.bind (token_All.one_mono _ _ _ _ _) (fun st => ?_)) (LeO.refl _)) (LeO.refl _)
    cases st with
    | skip j => exact ih _ _ _
    | tok x j => exact LeO.ite (ih _ _ _) (LeO.refl _)
    | bad a e => exact LeO.refl _
theorem token_All.mono : ∀ a0 k, LeO (token_All.f k a0) (token_All.f (k + 1) a0) := by
  intro a0 k
  unfold token_All.f
  exact LeO.ite (LeO.refl _) (token_All.l0_mono _ _ _ _)
end Go.Proofs.Ytlbchdalimngjaa.P
namespace Go.Proofs.Ytlbchdalimngjaa.Lex
open Go.RowKit Go.Proofs.YtlbchdalimngjaaW.PrintWords Go.Proofs.YtlbchdalimngjaaW.PrintLast Go.Proofs.Ytlbchdalimngjaa.P
set_option linter.unusedVariables false
set_option linter.unusedSimpArgs false
def isLow (c : UInt8) : Bool := decide (97 ≤ c.toNat) && decide (c.toNat ≤ 122)
def isDig (c : UInt8) : Bool := decide (48 ≤ c.toNat) && decide (c.toNat ≤ 57)
def isInn (c : UInt8) : Bool := isLow c || isDig c || decide (c.toNat = 95)
inductive Step where
  | skip (n : Nat)
  | tok (kind : Nat) (text : List UInt8) (val n : Nat)
  | bad (o e : Nat)
def digVal (ds : List UInt8) : Nat := ds.foldl (fun a d => 10 * a + (d.toNat - 48)) 0
def maxI : Nat := 9223372036854775807
def num (cs : List UInt8) : Step :=
  let ds := cs.takeWhile isDig
  if cs.head? = some 48 ∧ 1 < ds.length then .bad 1 9
  else if maxI < digVal ds then .bad 0 2
  else match (cs.drop ds.length).head? with
    | some c => if isInn c = true then .bad ds.length 9 else .tok 2 [] (digVal ds) ds.length
    | none => .tok 2 [] (digVal ds) ds.length
def hexVal (c : UInt8) : Option Nat := if isDig c = true then some (c.toNat - 48) else if 97 ≤ c.toNat ∧ c.toNat ≤ 102 then some (c.toNat - 87) else none
def chr : List UInt8 → Except (Nat × Nat) (UInt8 × Nat)
  | [] => .error (0, 4)
  | c :: cs => if c.toNat < 32 ∨ 126 < c.toNat then .error (0, 9) else if c.toNat ≠ 92 then .ok (c, 1) else
    match cs with
    | [] => .error (1, 4)
    | d :: cs => if d.toNat = 34 ∨ d.toNat = 92 then .ok (d, 2) else if d.toNat = 110 then .ok (10, 2) else if d.toNat ≠ 120 then .error (1, 9) else
      match cs with
      | [] => .error (2, 4)
      | h :: cs => match hexVal h with
        | none => .error (2, 9)
        | some a => match cs with
          | [] => .error (3, 4)
          | g :: _ => match hexVal g with
            | none => .error (3, 9)
            | some b => .ok ((16 * a + b).toUInt8, 4)
def textGo : Nat → List UInt8 → Nat → List UInt8 → Step
  | 0, _, _, _ => .bad 0 0
  | _ + 1, [], o, _ => .bad o 4
  | k + 1, c :: cs, o, out => if c.toNat = 34 then .tok 3 out 0 (o + 1) else
    match chr (c :: cs) with
    | .error (p, e) => .bad (o + p) e
    | .ok (x, n) => if out.length = 4095 then .bad 0 2 else textGo k ((c :: cs).drop n) (o + n) (out ++ [x])
def signs : List UInt8 := [40, 41, 123, 125, 91, 93, 44, 61, 60, 43, 45, 42, 47, 37, 33]
def sgn (c : UInt8) (cs : List UInt8) : Step :=
  if c.toNat = 33 ∧ cs.head? ≠ some 61 then (if cs = [] then .bad 1 4 else .bad 1 9)
  else if c ∉ signs then .bad 0 9
  else if (c.toNat = 61 ∨ c.toNat = 60 ∨ c.toNat = 33) ∧ cs.head? = some 61 then .tok 4 [c, 61] 0 2 else .tok 4 [c] 0 1
def one : List UInt8 → Step
  | [] => .skip 0
  | c :: cs =>
    if c.toNat = 32 ∨ c.toNat = 10 then .skip 1 else
    if c.toNat = 35 then .skip (1 + (cs.takeWhile fun d => decide (d.toNat ≠ 10)).length) else
    if isLow c = true then (if 24 < 1 + (cs.takeWhile isInn).length then .bad 0 2 else .tok 1 (c :: cs.takeWhile isInn) 0 (1 + (cs.takeWhile isInn).length)) else
    if isDig c = true then num (c :: cs) else
    if c.toNat = 34 then textGo ((c :: cs).length) cs 1 [] else sgn c cs
structure LTok where
  kind : Nat
  text : List UInt8
  val : Nat
  pos : Nat
def LTok.S (t : LTok) : S33 := ⟨t.kind, ⟨t.text.toArray⟩, t.val, t.pos⟩
section
variable (s : ByteArray)
theorem bt_get {s : ByteArray} {i : Nat} {c : UInt8} {cs : List UInt8} (h : s.data.toList.drop i = c :: cs) : bt s (i : Int) = (c.toNat : Int) ∧ i < s.size ∧ s.data.toList.drop (i + 1) = cs := by
  have hlt : i < s.data.toList.length := by
    rcases Nat.lt_or_ge i s.data.toList.length with h1 | h1
    · exact h1
    · rw [List.drop_eq_nil_of_le h1] at h; cases h
  rw [List.drop_eq_getElem_cons hlt] at h
  injection h with h1 h2
  have hs : i < s.size := by simpa using hlt
  refine ⟨?_, hs, h2⟩
  unfold bt
  rw [dif_pos (by simpa using hs)]
  subst h1
  rfl
theorem drop_nil {s : ByteArray} {i : Nat} (h : s.data.toList.drop i = []) : ¬ (i : Int) < (s.size : Int) := by
  have := List.drop_eq_nil_iff.1 h
  simp at this
  have e : s.data.size = s.size := rfl
  omega
end
theorem w64b {y : Int} (h0 : 0 ≤ y) (h : y ≤ 1000000) : wrap64 y = y := by unfold wrap64; omega
theorem w64 {i : Int} (h0 : 0 ≤ i) (h : i ≤ 1000000) : wrap64 (i + 1) = i + 1 := by unfold wrap64; omega
end Go.Proofs.Ytlbchdalimngjaa.Lex
namespace Go.Proofs.Ytlbchdalimngjaa.Lex
open Go.RowKit Go.Proofs.YtlbchdalimngjaaW.PrintWords Go.Proofs.YtlbchdalimngjaaW.PrintLast Go.Proofs.Ytlbchdalimngjaa.P
set_option linter.unusedVariables false
set_option linter.unusedSimpArgs false
def LTok.shift (d : Nat) (t : LTok) : LTok := ⟨t.kind, t.text, t.val, t.pos + d⟩
def after (acc : List LTok) (d : Nat) : Except (Nat × Nat) (List LTok) → Except (Nat × Nat) (List LTok)
  | .ok l => .ok (acc ++ l.map (LTok.shift d))
  | .error (p, e) => .error (p + d, e)
end Go.Proofs.Ytlbchdalimngjaa.Lex
namespace Go.Proofs.Ytlbchdalimngjaa.Tree
open Go.RowKit Go.Proofs.YtlbchdalimngjaaW.PrintWords Go.Proofs.YtlbchdalimngjaaW.PrintLast Go.Proofs.Ytlbchdalimngjaa.P Go.Proofs.Ytlbchdalimngjaa.Lex
set_option linter.unusedVariables false
set_option linter.unusedSimpArgs false
def nameL (l : List UInt8) : Bool := decide (l.length ≤ 24) && match l with
  | [] => false
  | c :: cs => isLow c && cs.all isInn
theorem inn_num (c : UInt8) : isInn c = true ↔ (97 ≤ c.toNat ∧ c.toNat ≤ 122) ∨ (48 ≤ c.toNat ∧ c.toNat ≤ 57) ∨ c.toNat = 95 := by
  unfold isInn isLow isDig
  simp [or_assoc]
theorem low_num (c : UInt8) : isLow c = true ↔ (97 ≤ c.toNat ∧ c.toNat ≤ 122) := by
  unfold isLow
  simp
theorem value_go (s : ByteArray) (hs : s.size ≤ 24) : ∀ (cs : List UInt8) (i : Nat), s.data.toList.drop i = cs → i ≤ s.size → Ev (fun k => value_Name.l0 k s (s.size : Int) (i : Int)) (cs.all isInn)
  | [], i, h, hi => by
    refine Ev.step (f := fun _ => some _) (fun k => ?_) (Ev.now _)
    show value_Name.l0 (k + 1) s _ _ = _
    rw [value_Name.l0, if_neg (drop_nil h)]
    rfl
  | c :: cs, i, h, hi => by
    obtain ⟨hb, hlt, hd⟩ := bt_get h
    have hc := inn_num c
    have w1 : wrap64 ((i : Int) + 1) = ((i + 1 : Nat) : Int) := w64 (by omega) (by omega)
    by_cases hin : isInn c = true
    · have hc2 := hc.1 hin
      rw [List.all_cons, hin, Bool.true_and]
      refine Ev.step (fun k => ?_) (value_go s hs cs (i + 1) hd (by omega))
      show value_Name.l0 (k + 1) s _ _ = _
      rw [value_Name.l0, if_pos (by omega), if_pos (by omega), if_pos (by omega), hb, w1]
      repeat' split
      all_goals first | rfl | (exfalso; omega)
    · have hc2 : ¬ ((97 ≤ c.toNat ∧ c.toNat ≤ 122) ∨ (48 ≤ c.toNat ∧ c.toNat ≤ 57) ∨ c.toNat = 95) := fun x => hin (hc.2 x)
      rw [List.all_cons, Bool.eq_false_iff.mpr hin, Bool.false_and]
      refine Ev.step (f := fun _ => some false) (fun k => ?_) (Ev.now _)
      show value_Name.l0 (k + 1) s _ _ = _
      rw [value_Name.l0, if_pos (by omega), if_pos (by omega), if_pos (by omega), hb, w1]
      repeat' split
      all_goals first | rfl | (exfalso; omega)
theorem value_is (s : ByteArray) : Ev (fun k => value_Name.f k s) (nameL s.data.toList) := by
  have e : s.data.toList.length = s.size := by simp
  have no : Ev (fun k => value_Name.j0 k s true) false := Ev.step (f := fun _ => some false) (fun k => by show value_Name.j0 (k + 1) s true = _; rw [value_Name.j0, if_pos rfl]) (Ev.now _)
  unfold nameL
  cases hl : s.data.toList with
  | nil =>
    rw [Bool.and_false]
    refine Ev.congr (fun k => ?_) no
    show value_Name.f k s = _
    rw [value_Name.f, ByteArray.toList_eq, hl, if_pos rfl]
  | cons c cs =>
    obtain ⟨hb, hlt, hd⟩ := bt_get (s := s) (i := 0) (c := c) (cs := cs) (by simpa using hl)
    have hne : ¬ s.toList = [] := by rw [ByteArray.toList_eq, hl]; simp
    have hb0 : bt s 0 = (c.toNat : Int) := hb
    have e2 : (c :: cs).length = s.size := by rw [← hl]; exact e
    rw [e2]
    (try dsimp only)
    by_cases h24 : s.size ≤ 24
    · rw [decide_eq_true h24, Bool.true_and]
      by_cases hlow : isLow c = true
      · have hn := (low_num c).1 hlow
        rw [hlow, Bool.true_and]
        have hin : isInn c = true := by unfold isInn; rw [hlow]; rfl
        have := value_go s h24 (c :: cs) 0 (by simpa using hl) (by omega)
        rw [List.all_cons, hin, Bool.true_and] at this
        refine Ev.congr (f := fun k => value_Name.j0 k s false) (fun k => ?_) (Ev.step (fun k => ?_) this)
        · show value_Name.f k s = _
          rw [value_Name.f, if_neg hne, if_neg (by omega), if_pos (by omega), hb0, if_neg (by omega), decide_eq_false (by omega)]
        · show value_Name.j0 (k + 1) s false = _
          rw [value_Name.j0, if_neg (by decide)]
          rfl
      · have hn : ¬ (97 ≤ c.toNat ∧ c.toNat ≤ 122) := fun x => hlow ((low_num c).2 x)
        rw [Bool.eq_false_iff.mpr hlow, Bool.false_and]
        refine Ev.congr (fun k => ?_) no
        show value_Name.f k s = _
        rw [value_Name.f, if_neg hne, if_neg (by omega), if_pos (by omega), hb0]
        by_cases h97 : (c.toNat : Int) < 97
        · rw [if_pos h97]
        · rw [if_neg h97, decide_eq_true (by omega)]
    · rw [decide_eq_false h24, Bool.false_and]
      refine Ev.congr (fun k => ?_) no
      show value_Name.f k s = _
      rw [value_Name.f, if_neg hne, if_pos (by omega)]
theorem name_go (s : ByteArray) (hs : s.size ≤ 24) : ∀ (cs : List UInt8) (i : Nat), 0 < i → s.data.toList.drop i = cs → i ≤ s.size → Ev (fun k => prompterref04_Name.l0 k s (i : Int)) (cs.all isInn)
  | [], i, h0, h, hi => by
    refine Ev.step (f := fun _ => some _) (fun k => ?_) (Ev.now _)
    show prompterref04_Name.l0 (k + 1) s _ = _
    rw [prompterref04_Name.l0, if_neg (drop_nil h)]
    rfl
  | c :: cs, i, h0, h, hi => by
    obtain ⟨hb, hlt, hd⟩ := bt_get h
    have hc := inn_num c
    have w1 : wrap64 ((i : Int) + 1) = ((i + 1 : Nat) : Int) := w64 (by omega) (by omega)
    by_cases hin : isInn c = true
    · have hc2 := hc.1 hin
      rw [List.all_cons, hin, Bool.true_and]
      refine Ev.step (fun k => ?_) (name_go s hs cs (i + 1) (by omega) hd (by omega))
      show prompterref04_Name.l0 (k + 1) s _ = _
      rw [prompterref04_Name.l0, if_pos (by omega), if_pos (by omega), hb, w1]
      clear w1 hb
      repeat' split
      all_goals first | rfl | (exfalso; omega)
    · have hc2 : ¬ ((97 ≤ c.toNat ∧ c.toNat ≤ 122) ∨ (48 ≤ c.toNat ∧ c.toNat ≤ 57) ∨ c.toNat = 95) := fun x => hin (hc.2 x)
      rw [List.all_cons, Bool.eq_false_iff.mpr hin, Bool.false_and]
      refine Ev.step (f := fun _ => some false) (fun k => ?_) (Ev.now _)
      show prompterref04_Name.l0 (k + 1) s _ = _
      rw [prompterref04_Name.l0, if_pos (by omega), if_pos (by omega), hb, w1]
      clear w1 hb
      repeat' split
      all_goals first | rfl | (exfalso; omega)
theorem name_is (s : ByteArray) : Ev (fun k => prompterref04_Name.f k s) (nameL s.data.toList) := by
  have e : s.data.toList.length = s.size := by simp
  have no : Ev (fun k => prompterref04_Name.j0 k s true) false := Ev.step (f := fun _ => some false) (fun k => by show prompterref04_Name.j0 (k + 1) s true = _; rw [prompterref04_Name.j0, if_pos rfl]) (Ev.now _)
  unfold nameL
  cases hl : s.data.toList with
  | nil =>
    rw [hl] at e
    rw [Bool.and_false]
    refine Ev.congr (fun k => ?_) no
    show prompterref04_Name.f k s = _
    rw [prompterref04_Name.f, if_pos (by simp at e; omega)]
  | cons c cs =>
    obtain ⟨hb, hlt, hd⟩ := bt_get (s := s) (i := 0) (c := c) (cs := cs) (by simpa using hl)
    have hb0 : bt s 0 = (c.toNat : Int) := hb
    have e2 : (c :: cs).length = s.size := by rw [← hl]; exact e
    rw [e2]
    (try dsimp only)
    by_cases h24 : s.size ≤ 24
    · rw [decide_eq_true h24, Bool.true_and]
      have start : ∀ r, Ev (fun k => prompterref04_Name.l0 k s 0) r → Ev (fun k => prompterref04_Name.f k s) r := by
        intro r hr
        refine Ev.congr (f := fun k => prompterref04_Name.j0 k s false) (fun k => ?_) (Ev.step (fun k => ?_) hr)
        · show prompterref04_Name.f k s = _
          rw [prompterref04_Name.f, if_neg (by omega), decide_eq_false (by omega)]
        · show prompterref04_Name.j0 (k + 1) s false = _
          rw [prompterref04_Name.j0, if_neg (by decide)]
      refine start _ ?_
      have hln := low_num c
      by_cases hlow : isLow c = true
      · have hn := hln.1 hlow
        rw [hlow, Bool.true_and]
        have := name_go s h24 cs 1 (by omega) hd (by omega)
        refine Ev.step (fun k => ?_) this
        show prompterref04_Name.l0 (k + 1) s 0 = _
        rw [prompterref04_Name.l0, if_pos (by omega), if_pos (by omega), hb0, show wrap64 ((0 : Int) + 1) = ((1 : Nat) : Int) from w64 (by decide) (by decide)]
        repeat' split
        all_goals first | rfl | (exfalso; omega)
      · have hn : ¬ (97 ≤ c.toNat ∧ c.toNat ≤ 122) := fun x => hlow (hln.2 x)
        rw [Bool.eq_false_iff.mpr hlow, Bool.false_and]
        refine Ev.step (f := fun _ => some false) (fun k => ?_) (Ev.now _)
        show prompterref04_Name.l0 (k + 1) s 0 = _
        rw [prompterref04_Name.l0, if_pos (by omega), if_pos (by omega), hb0]
        repeat' split
        all_goals first | rfl | (exfalso; omega)
    · rw [decide_eq_false h24, Bool.false_and]
      refine Ev.congr (fun k => ?_) no
      show prompterref04_Name.f k s = _
      rw [prompterref04_Name.f, if_neg (by omega), decide_eq_true (by omega)]
theorem ite_or (c : Prop) [Decidable c] (b : Bool) : (if c then some true else some b) = some (decide c || b) := by
  by_cases h : c <;> simp [h]
theorem among_l (x : ByteArray) (l : List ByteArray) (hl : l.length < 1000) : ∀ (d : Nat) (i : Nat) (k : Nat), i + d = l.length → d < k →
    prompterref07_Among.l0 k l x (i : Int) = some ((l.drop i).any fun y => decide (y.toList = x.toList)) := by
  intro d
  induction d with
  | zero =>
    intro i k hi hk
    obtain ⟨k, rfl⟩ : ∃ m, k = m + 1 := ⟨k - 1, by omega⟩
    simp only [prompterref07_Among.l0]
    rw [if_neg (by omega), List.drop_eq_nil_of_le (by omega)]
    rfl
  | succ d ih =>
    intro i k hi hk
    obtain ⟨k, rfl⟩ : ∃ m, k = m + 1 := ⟨k - 1, by omega⟩
    simp only [prompterref07_Among.l0]
    rw [if_pos (by omega), if_pos (by omega)]
    have hw : wrap64 ((i : Int) + 1) = ((i + 1 : Nat) : Int) := by unfold wrap64; omega
    have hlt : i < l.length := by omega
    have hrd : rdOf ByteArray.empty l (i : Int) = l[i] := by simp [rdOf, List.getD_eq_getElem?_getD, hlt]
    rw [hw, ih (i + 1) k (by omega) (by omega), hrd, List.drop_eq_getElem_cons hlt, List.any_cons, ite_or]
theorem keyword_any (x : ByteArray) (W : List ByteArray) (hW : prompterref07_Words.f = some W) (hW' : W.length = 28) :
    prompterref07_Keyword.f 40 x = some (W.any fun y => decide (y.toList = x.toList)) := by
  unfold prompterref07_Keyword.f
  rw [hW]
  simp only [Option.bind_some]
  have := among_l x W (by omega) 28 0 40 (by omega) (by omega)
  unfold prompterref07_Among.f
  rw [show ((0 : Nat) : Int) = 0 from rfl] at this
  rw [this]
  simp
theorem keyword_eq (x : ByteArray) : ∃ b, token_Keyword.f x = some b ∧ Ev (fun k => prompterref07_Keyword.f k x) b := by
  refine ⟨_, ?_, Ev.of (prompterref07_Keyword.mono x) (keyword_any x _ rfl rfl)⟩
  unfold token_Keyword.f
  simp only [ite_or]
  congr 1
  simp only [List.any_cons, List.any_nil]
  simp only [ByteArray.toList_eq]
  have e : ∀ l : List UInt8, decide (x.data.toList = l) = decide (l = x.data.toList) := fun l => by simp [eq_comm]
  simp only [e]
theorem own_both (x : ByteArray) : ∃ b, Ev (fun k => tree_own.f k x) b ∧ Ev (fun k => prompterref08_Own.f k x) b := by
  obtain ⟨b, h1, h2⟩ := keyword_eq x
  refine ⟨if nameL x.data.toList = true then !b else false, ?_, ?_⟩
  · refine Ev.bind (f := fun _ t => if t = true then ((token_Keyword.f x).bind fun t346 => (some (!t346))) else (some false)) (value_is x) ?_
    refine Ev.congr (f := fun _ => some _) (fun k => ?_) (Ev.now _)
    rw [h1]
    split <;> rfl
  · refine Ev.bind (f := fun k t => if t = true then ((prompterref07_Keyword.f k x).bind fun t389 => (some (!t389))) else (some false)) (name_is x) ?_
    by_cases hn : nameL x.data.toList = true
    · rw [if_pos hn]
      exact Ev.congr (fun k => if_pos hn) (Ev.bind h2 (Ev.now _))
    · rw [if_neg hn]
      exact Ev.congr (fun k => if_neg hn) (Ev.now _)
end Go.Proofs.Ytlbchdalimngjaa.Tree
namespace Go.Proofs.Ytlbchdalimngjaa.Tree
open Go.RowKit Go.Proofs.YtlbchdalimngjaaW.PrintWords Go.Proofs.YtlbchdalimngjaaW.PrintLast Go.Proofs.Ytlbchdalimngjaa.P Go.Proofs.Ytlbchdalimngjaa.Lex
set_option linter.unusedVariables false
set_option linter.unusedSimpArgs false
def exprB (op : Int) : Bool := decide ((20 ≤ op ∧ op ≤ 26) ∨ (30 ≤ op ∧ op ≤ 48) ∨ (50 ≤ op ∧ op ≤ 57))
def stmtB (op : Int) : Bool := decide (4 ≤ op ∧ op ≤ 11)
def okOp (op : Int) : Bool := exprB op || stmtB op || decide (1 ≤ op ∧ op ≤ 3)
def namedB (op : Int) : Bool := decide (op = 1 ∨ op = 2 ∨ op = 4 ∨ op = 5 ∨ op = 26 ∨ op = 56 ∨ op = 50 ∨ op = 51)
def leastI (op : Int) : Int := (prompterref08_Least.f 9 op).getD 0
def mostI (op : Int) : Int := (prompterref08_Most.f 9 op).getD 0
theorem refexpr_is (op : Int) : prompterref08_Expression.f op = some (exprB op) := by
  unfold prompterref08_Expression.f exprB
  repeat' split
  all_goals (congr 1; first | (symm; exact decide_eq_true (by omega)) | (symm; exact decide_eq_false (by omega)) | exact decide_eq_decide.2 (by omega))
theorem refstmt_is (op : Int) : prompterref08_Statement.f op = some (stmtB op) := by
  unfold prompterref08_Statement.f stmtB
  repeat' split
  all_goals (congr 1; first | (symm; exact decide_eq_true (by omega)) | (symm; exact decide_eq_false (by omega)) | exact decide_eq_decide.2 (by omega))
theorem stmt_is (op : Int) : tree_Statement.f op = some (stmtB op) := refstmt_is op
theorem expr_is (op : Int) : tree_Expression.f 9 op = some (exprB op) := by
  have e0 : ∀ x b, tree_Expression.j0 9 x b = if b = true then some true else if x ≥ 30 then tree_Expression.j1 8 x (decide (x ≤ 48)) else tree_Expression.j1 8 x false := fun _ _ => rfl
  have e1 : ∀ x b, tree_Expression.j1 8 x b = if b = true then some true else if x ≥ 50 then (if x ≤ 57 then some true else some false) else some false := fun _ _ => rfl
  unfold tree_Expression.f exprB
  simp only [e0, e1, decide_eq_true_eq]
  repeat' split
  all_goals (congr 1; first | (symm; exact decide_eq_true (by omega)) | (symm; exact decide_eq_false (by omega)) | (exfalso; simp_all; done))
theorem named_is (op : Int) : prompterref08_named.f op = some (namedB op) := by
  unfold prompterref08_named.f namedB
  repeat' split
  all_goals (congr 1; first | (symm; exact decide_eq_true (by omega)) | (rw [Bool.eq_iff_iff]; simp; omega))
theorem ok_range {op : Int} (h : okOp op = true) : ∃ n : Nat, op = (n : Int) ∧ n < 58 := by
  unfold okOp exprB stmtB at h
  simp at h
  exact ⟨op.toNat, by omega, by omega⟩
theorem least_is {op : Int} (h : okOp op = true) : Ev (fun k => prompterref08_Least.f k op) (leastI op) ∧ 0 ≤ leastI op := by
  obtain ⟨n, rfl, hn⟩ := ok_range h
  have key : ∀ n : Nat, n < 58 → prompterref08_Least.f 9 (n : Int) = some (leastI (n : Int)) ∧ 0 ≤ leastI (n : Int) := by decide +kernel
  exact ⟨Ev.of (prompterref08_Least.mono _) (key n hn).1, (key n hn).2⟩
theorem most_is {op : Int} (h : okOp op = true) : Ev (fun k => prompterref08_Most.f k op) (mostI op) ∧ mostI op ≤ 3 := by
  obtain ⟨n, rfl, hn⟩ := ok_range h
  have key : ∀ n : Nat, n < 58 → prompterref08_Most.f 9 (n : Int) = some (mostI (n : Int)) ∧ mostI (n : Int) ≤ 3 := by decide +kernel
  exact ⟨Ev.of (prompterref08_Most.mono _) (key n hn).1, (key n hn).2⟩
def textB (op : Int) (s : ByteArray) (own : Bool) : Bool := if namedB op = true then own else if op = 24 then decide ((s.size : Int) ≤ 4095) else decide (s.toList = [])
def kidsB (op kids : Int) : Bool := decide (leastI op ≤ kids ∧ kids ≤ (if mostI op < 0 then 2048 else mostI op))
def intB (op v : Int) : Bool := decide (v = 0 ∨ (0 ≤ v ∧ op = 23))
def fineB (x : S43) (own : Bool) : Bool := okOp x.f0 && (textB x.f0 x.f3 own && (intB x.f0 x.f2 && kidsB x.f0 x.f1))
theorem fine_is (x : S43) (own : Bool) (h : Ev (fun k => prompterref08_Own.f k x.f3) own) : Ev (fun k => prompterref08_fine.f k x.f0 x.f1 x.f2 x.f3) (fineB x own) := by
  have no0 : Ev (fun k => prompterref08_fine.j0 k true x.f0 x.f1 x.f2 x.f3) false := Ev.step (f := fun _ => some false) (fun k => by show prompterref08_fine.j0 (k + 1) true _ _ _ _ = _; rw [prompterref08_fine.j0, if_pos rfl]) (Ev.now _)
  have no2 : Ev (fun k => prompterref08_fine.j2 k true x.f0 x.f1 x.f2 x.f3) false := Ev.step (f := fun _ => some false) (fun k => by show prompterref08_fine.j2 (k + 1) true _ _ _ _ = _; rw [prompterref08_fine.j2, if_pos rfl]) (Ev.now _)
  unfold fineB
  by_cases ho : okOp x.f0 = true
  · rw [ho, Bool.true_and]
    obtain ⟨hl, hl0⟩ := least_is ho
    obtain ⟨hm, hm3⟩ := most_is ho
    have kids : Ev (fun k => prompterref08_fine.j2 k false x.f0 x.f1 x.f2 x.f3) (kidsB x.f0 x.f1) := by
      refine Ev.step (f := fun k => (prompterref08_Least.f k x.f0).bind fun t396 => (if x.f1 ≥ t396 then ((prompterref08_Most.f k x.f0).bind fun t397 => (if t397 < 0 then (if x.f1 ≤ 2048 then (some true) else ((prompterref08_Most.f k x.f0).bind fun t398 => (some (decide (x.f1 ≤ t398))))) else ((prompterref08_Most.f k x.f0).bind fun t399 => (some (decide (x.f1 ≤ t399)))))) else (some false))) (fun k => ?_) (Ev.bind hl ?_)
      · show prompterref08_fine.j2 (k + 1) false _ _ _ _ = _
        rw [prompterref08_fine.j2, if_neg (by decide)]
      unfold kidsB
      by_cases h1 : x.f1 ≥ leastI x.f0
      · simp only [if_pos h1]
        refine Ev.bind hm ?_
        by_cases h2 : mostI x.f0 < 0
        · simp only [if_pos h2]
          by_cases h3 : x.f1 ≤ 2048
          · simp only [if_pos h3]
            rw [decide_eq_true ⟨h1, h3⟩]
            exact Ev.now _
          · simp only [if_neg h3]
            rw [decide_eq_false (fun y => h3 y.2)]
            refine Ev.bind hm ?_
            rw [decide_eq_false (by omega)]
            exact Ev.now _
        · simp only [if_neg h2]
          refine Ev.bind hm ?_
          have e : decide (leastI x.f0 ≤ x.f1 ∧ x.f1 ≤ mostI x.f0) = decide (x.f1 ≤ mostI x.f0) := decide_eq_decide.2 ⟨fun y => y.2, fun y => ⟨h1, y⟩⟩
          rw [e]
          exact Ev.now _
      · simp only [if_neg h1]
        rw [decide_eq_false (fun y => h1 y.1)]
        exact Ev.now _
    have ints : Ev (fun k => prompterref08_fine.j1 k x.f0 x.f1 x.f2 x.f3) (intB x.f0 x.f2 && kidsB x.f0 x.f1) := by
      unfold intB
      by_cases h1 : x.f2 < 0
      · rw [decide_eq_false (by omega), Bool.false_and]
        refine Ev.step (fun k => ?_) no2
        show prompterref08_fine.j1 (k + 1) _ _ _ _ = _
        rw [prompterref08_fine.j1, if_pos h1]
      by_cases h2 : x.f2 > 0
      · by_cases h3 : x.f0 = 23
        · rw [decide_eq_true (by omega), Bool.true_and]
          refine Ev.step (fun k => ?_) kids
          show prompterref08_fine.j1 (k + 1) _ _ _ _ = _
          rw [prompterref08_fine.j1, if_neg h1, if_pos h2, bne_eq_false_iff_eq.mpr h3]
        · rw [decide_eq_false (by omega), Bool.false_and]
          refine Ev.step (fun k => ?_) no2
          show prompterref08_fine.j1 (k + 1) _ _ _ _ = _
          rw [prompterref08_fine.j1, if_neg h1, if_pos h2, bne_iff_ne.mpr h3]
      · rw [decide_eq_true (by omega), Bool.true_and]
        refine Ev.step (fun k => ?_) kids
        show prompterref08_fine.j1 (k + 1) _ _ _ _ = _
        rw [prompterref08_fine.j1, if_neg h1, if_neg h2]
    have texts : Ev (fun k => prompterref08_fine.j0 k false x.f0 x.f1 x.f2 x.f3) (textB x.f0 x.f3 own && (intB x.f0 x.f2 && kidsB x.f0 x.f1)) := by
      unfold textB
      by_cases h1 : namedB x.f0 = true
      · rw [if_pos h1]
        refine Ev.step (f := fun k => (prompterref08_Own.f k x.f3).bind fun t395 => (if t395 = true then (prompterref08_fine.j1 k x.f0 x.f1 x.f2 x.f3) else (some false))) (fun k => ?_) (Ev.bind h ?_)
        · show prompterref08_fine.j0 (k + 1) false _ _ _ _ = _
          rw [prompterref08_fine.j0, if_neg (by decide), named_is, h1]
          rfl
        cases own with
        | true => rw [Bool.true_and]; exact Ev.congr (fun k => if_pos rfl) ints
        | false => rw [Bool.false_and]; exact Ev.congr (fun k => if_neg (by decide)) (Ev.now _)
      rw [if_neg h1]
      have hn : namedB x.f0 = false := Bool.eq_false_iff.mpr h1
      by_cases h2 : x.f0 = 24
      · rw [if_pos h2]
        by_cases h3 : (x.f3.size : Int) > 4095
        · rw [decide_eq_false (by omega), Bool.false_and]
          refine Ev.step (f := fun _ => some false) (fun k => ?_) (Ev.now _)
          show prompterref08_fine.j0 (k + 1) false _ _ _ _ = _
          rw [prompterref08_fine.j0, if_neg (by decide), named_is, hn]
          simp only [Option.bind_some, Bool.false_eq_true, if_false]
          rw [if_pos h2, if_pos h3]
        · rw [decide_eq_true (by omega), Bool.true_and]
          refine Ev.step (fun k => ?_) ints
          show prompterref08_fine.j0 (k + 1) false _ _ _ _ = _
          rw [prompterref08_fine.j0, if_neg (by decide), named_is, hn]
          simp only [Option.bind_some, Bool.false_eq_true, if_false]
          rw [if_pos h2, if_neg h3]
      rw [if_neg h2]
      by_cases h3 : x.f3.toList = []
      · rw [decide_eq_true h3, Bool.true_and]
        refine Ev.step (fun k => ?_) ints
        show prompterref08_fine.j0 (k + 1) false _ _ _ _ = _
        rw [prompterref08_fine.j0, if_neg (by decide), named_is, hn]
        simp only [Option.bind_some, Bool.false_eq_true, if_false]
        rw [if_neg h2, if_pos h3]
      · rw [decide_eq_false h3, Bool.false_and]
        refine Ev.step (f := fun _ => some false) (fun k => ?_) (Ev.now _)
        show prompterref08_fine.j0 (k + 1) false _ _ _ _ = _
        rw [prompterref08_fine.j0, if_neg (by decide), named_is, hn]
        simp only [Option.bind_some, Bool.false_eq_true, if_false]
        rw [if_neg h2, if_neg h3]
    refine Ev.congr (fun k => ?_) texts
    show prompterref08_fine.f k _ _ _ _ = _
    rw [prompterref08_fine.f, refexpr_is]
    unfold okOp at ho
    cases he : exprB x.f0 with
    | true => simp only [Option.bind_some, if_true]
    | false =>
      simp only [Option.bind_some, Bool.false_eq_true, if_false]
      rw [refstmt_is]
      cases hs : stmtB x.f0 with
      | true => simp only [Option.bind_some, if_true]
      | false =>
        simp only [Option.bind_some, Bool.false_eq_true, if_false]
        rw [he, hs] at ho
        simp at ho
        rw [if_neg (by omega), decide_eq_false (by omega)]
  · rw [Bool.eq_false_iff.mpr ho, Bool.false_and]
    refine Ev.congr (fun k => ?_) no0
    show prompterref08_fine.f k _ _ _ _ = _
    have ho' : okOp x.f0 = false := Bool.eq_false_iff.mpr ho
    unfold okOp at ho'
    simp only [Bool.or_eq_false_iff, decide_eq_false_iff_not] at ho'
    obtain ⟨⟨he, hs⟩, h3⟩ := ho'
    rw [prompterref08_fine.f, refexpr_is, he]
    simp only [Option.bind_some, Bool.false_eq_true, if_false]
    rw [refstmt_is, hs]
    simp only [Option.bind_some, Bool.false_eq_true, if_false]
    by_cases h1 : x.f0 < 1
    · rw [if_pos h1]
    · rw [if_neg h1, decide_eq_true (by omega)]
theorem lookup_mem {α : Type} [BEq α] [LawfulBEq α] {β : Type} {a : α} {b : β} : ∀ {L : List (α × β)}, L.lookup a = some b → (a, b) ∈ L
  | [], h => by cases h
  | (c, d) :: L, h => by
    rw [List.lookup] at h
    split at h
    · rename_i e
      rw [Option.some.inj h, eq_of_beq e]
      exact List.mem_cons_self
    · exact List.mem_cons_of_mem _ (lookup_mem h)
def txN (op : Int) : Nat := if namedB op = true then 69 else if op = 24 then 75 else 72
def ptOk (op : Int) (p : Nat) : Bool := if op = 1 then p == 70 else if op = 3 then p == 73 else if op = 6 ∨ op = 7 then p == 74 else if op = 53 then p == 77 else if mostI op = 0 then true else p == 76
theorem table : ∀ p ∈ formTab 58, okOp p.1 = true ∧ p.2.tx = txN p.1 ∧ p.2.le = leastI p.1 ∧ p.2.mo = (if mostI p.1 < 0 then 2048 else mostI p.1) ∧ ptOk p.1 p.2.pt = true := by decide +kernel
theorem form_of {op : Int} {f : P.Form} (h : formOf op = some f) : okOp op = true ∧ f.tx = txN op ∧ f.le = leastI op ∧ f.mo = (if mostI op < 0 then 2048 else mostI op) ∧ ptOk op f.pt = true := table (op, f) (lookup_mem h)
theorem form_no {op : Int} (h : formOf op = none) : okOp op = false := by
  cases ho : okOp op with
  | false => rfl
  | true =>
    obtain ⟨n, rfl, hn⟩ := ok_range ho
    have key : ∀ n : Nat, n < 58 → okOp (n : Int) = true → (formOf (n : Int)).isSome = true := by decide +kernel
    have := key n hn ho
    rw [h] at this
    cases this
theorem text_is2 {op : Int} {s : ByteArray} {own : Bool} (h : Ev (fun k => tree_own.f k s) own) : Ev (fun k => textOf k (txN op) s) (textB op s own) := by
  unfold textOf txN textB
  by_cases h1 : namedB op = true
  · simp only [if_pos h1, if_true]; exact h
  simp only [if_neg h1]
  by_cases h2 : op = 24
  · simp only [if_pos h2]
    exact Ev.congr (f := fun _ => some _) (fun k => rfl) (Ev.now _)
  · simp only [if_neg h2]
    refine Ev.congr (f := fun _ => some _) (fun k => ?_) (Ev.now _)
    show tree_empty.f s = _
    unfold tree_empty.f
    congr 1
    rw [Bool.eq_iff_iff]
    simp
theorem bad_is (x : S43) (own : Bool) (h : Ev (fun k => tree_own.f k x.f3) own) (p : Int → Bool) : Ev (fun k => tree_Check.bad k x p) (!(p x.f0 && fineB x own)) := by
  unfold tree_Check.bad fineB
  cases hf : formOf x.f0 with
  | none =>
    rw [form_no hf, Bool.false_and, Bool.and_false]
    exact Ev.now _
  | some f =>
    obtain ⟨ho, h1, h2, h3, _⟩ := form_of hf
    rw [ho, Bool.true_and]
    dsimp only
    by_cases hp : p x.f0 = true
    · simp only [if_pos hp]
      rw [hp, Bool.true_and, h1, h2, h3]
      refine Ev.bind (text_is2 h) ?_
      cases ht : textB x.f0 x.f3 own with
      | false => exact Ev.congr (fun k => if_neg (by decide)) (Ev.now _)
      | true =>
        rw [Bool.true_and]
        simp only [if_true]
        unfold intB kidsB
        refine Ev.congr (f := fun _ => some _) (fun k => ?_) (Ev.now _)
        repeat' split
        all_goals (congr 1; rw [Bool.eq_iff_iff]; simp; omega)
    · simp only [if_neg hp]
      rw [Bool.eq_false_iff.mpr hp, Bool.false_and]
      exact Ev.now _
end Go.Proofs.Ytlbchdalimngjaa.Tree
namespace Go.Proofs.Ytlbchdalimngjaa.Tree
open Go.RowKit Go.Proofs.YtlbchdalimngjaaW.PrintWords Go.Proofs.YtlbchdalimngjaaW.PrintLast Go.Proofs.Ytlbchdalimngjaa.P Go.Proofs.Ytlbchdalimngjaa.Lex
set_option linter.unusedVariables false
set_option linter.unusedSimpArgs false
def refPart (op i n q : Int) : Bool := if op = 1 then (if i = n - 1 then q == 3 else q == 2) else if op = 3 then stmtB q else if op = 6 ∨ op = 7 then (if i > 0 then q == 3 else exprB q) else if op = 53 then q == 3 else exprB q
theorem part_is (op i n q : Int) (hn : 0 ≤ n ∧ n ≤ 2048) : Ev (fun k => prompterref08_part.f k op i n q) (refPart op i n q) := by
  have ew : wrap64 (n - 1) = n - 1 := by unfold wrap64; omega
  unfold refPart
  by_cases h1 : op = 1
  · rw [if_pos h1]
    refine Ev.congr (f := fun _ => some _) (fun k => ?_) (Ev.now _)
    show prompterref08_part.f k _ _ _ _ = _
    rw [prompterref08_part.f, if_pos h1, ew]
    split <;> rfl
  rw [if_neg h1]
  by_cases h3 : op = 3
  · rw [if_pos h3]
    refine Ev.congr (f := fun _ => some _) (fun k => ?_) (Ev.now _)
    show prompterref08_part.f k _ _ _ _ = _
    rw [prompterref08_part.f, if_neg h1, if_pos h3, refstmt_is]
    rfl
  rw [if_neg h3]
  by_cases h6 : op = 6 ∨ op = 7
  · rw [if_pos h6]
    refine Ev.congr (f := fun k => prompterref08_part.j0 k i q op true) (fun k => ?_) (Ev.step (f := fun _ => some _) (fun k => ?_) (Ev.now _))
    · show prompterref08_part.f k _ _ _ _ = _
      rw [prompterref08_part.f, if_neg h1, if_neg h3]
      by_cases h : op = 6
      · rw [if_pos h, beq_iff_eq.mpr h]
      · rw [if_neg h, beq_iff_eq.mpr (show op = 7 by omega)]
    · show prompterref08_part.j0 (k + 1) _ _ _ _ = _
      rw [prompterref08_part.j0, if_pos rfl, refexpr_is]
      split <;> rfl
  · rw [if_neg h6]
    refine Ev.congr (f := fun k => prompterref08_part.j0 k i q op false) (fun k => ?_) (Ev.step (f := fun _ => some _) (fun k => ?_) (Ev.now _))
    · show prompterref08_part.f k _ _ _ _ = _
      rw [prompterref08_part.f, if_neg h1, if_neg h3, if_neg (by omega), beq_eq_false_iff_ne.mpr (show op ≠ 7 by omega)]
    · show prompterref08_part.j0 (k + 1) _ _ _ _ = _
      rw [prompterref08_part.j0, if_neg (by decide), refexpr_is]
      split <;> rfl
theorem partB_is {op : Int} {f : P.Form} (hf : formOf op = some f) (i n q : Int) (h0 : 0 ≤ i) (hi : i < n) (hk : kidsB op n = true) (hn : n ≤ 2048) : partB f.pt i n q = refPart op i n q := by
  obtain ⟨ho, _, _, _, hp⟩ := form_of hf
  have ew : wrap64 (n - 1) = n - 1 := by unfold wrap64; omega
  unfold ptOk at hp
  unfold partB refPart
  by_cases h1 : op = 1
  · rw [if_pos h1] at hp
    rw [eq_of_beq hp, if_pos h1]
    simp only [partOf, Nat.reduceEqDiff, if_true, if_false, tree_params.f, ew]
    by_cases h : i = n - 1
    · rw [if_neg (by omega), if_pos h, if_pos h]; rfl
    · rw [if_pos (by omega), if_neg h, if_neg h]
      by_cases hq : q = 2
      · rw [if_pos hq, beq_iff_eq.mpr hq]; rfl
      · rw [if_neg hq, beq_eq_false_iff_ne.mpr hq]; rfl
  rw [if_neg h1] at hp ⊢
  by_cases h3 : op = 3
  · rw [if_pos h3] at hp ⊢
    rw [eq_of_beq hp]
    simp only [partOf, Nat.reduceEqDiff, if_true, if_false, tree_stmt.f, stmt_is]
    rfl
  rw [if_neg h3] at hp ⊢
  by_cases h6 : op = 6 ∨ op = 7
  · rw [if_pos h6] at hp ⊢
    rw [eq_of_beq hp]
    simp only [partOf, Nat.reduceEqDiff, if_true, if_false, tree_headed.f, expr_is, Option.bind_some]
    by_cases h : i = 0
    · rw [if_pos h, h]
      cases exprB q <;> rfl
    · rw [if_neg h, if_pos (by omega), if_pos (by omega)]; rfl
  rw [if_neg h6] at hp ⊢
  by_cases h53 : op = 53
  · rw [if_pos h53] at hp ⊢
    rw [eq_of_beq hp]
    simp only [partOf, Nat.reduceEqDiff, if_true, if_false, tree_block.f]
    rfl
  rw [if_neg h53] at hp ⊢
  by_cases h0' : mostI op = 0
  · exfalso
    unfold kidsB at hk
    rw [h0'] at hk
    simp at hk
    omega
  rw [if_neg h0'] at hp
  rw [eq_of_beq hp]
  simp only [partOf, Nat.reduceEqDiff, if_true, if_false, tree_expr.f, expr_is, Option.bind_some]
  rfl
theorem rd85_last (st : List S85) (fr : S85) (h : st.length ≤ 5000) : rd_T85 (st ++ [fr]) (wrap64 (((st ++ [fr]).length : Int) - 1)) = fr := by
  have : wrap64 (((st ++ [fr]).length : Int) - 1) = (st.length : Int) := by rw [List.length_append, List.length_singleton]; unfold wrap64; omega
  rw [this, rd_T85, Int.toNat_natCast, List.getD_eq_getElem?_getD, List.getElem?_append_right (Nat.le_refl _), Nat.sub_self]
  rfl
theorem last_ok (st : List S85) (fr : S85) (h : st.length ≤ 5000) : ((st ++ [fr]).length : Int) > 0 ∧ 0 ≤ wrap64 (((st ++ [fr]).length : Int) - 1) ∧ wrap64 (((st ++ [fr]).length : Int) - 1) < ((st ++ [fr]).length : Int) ∧ (wrap64 (((st ++ [fr]).length : Int) - 1)).toNat = st.length := by
  have : wrap64 (((st ++ [fr]).length : Int) - 1) = (st.length : Int) := by rw [List.length_append, List.length_singleton]; unfold wrap64; omega
  rw [this, List.length_append, List.length_singleton]
  omega
theorem l1_stop (l : List S43) (st : List S85) (fr : S85) (h : st.length ≤ 5000) (hne : fr.f1 ≠ fr.f2) (dp : Int) (at_ : Nat) (ha : 1 ≤ at_ ∧ at_ ≤ 5000) (r : Int × Int) (hr : Ev (fun k => prompterref08_Check.l0 k l (st ++ [fr]) dp (at_ : Int)) r) :
    Ev (fun k => prompterref08_Check.l1 k l (st ++ [fr]) dp ((at_ : Int) - 1)) r := by
  obtain ⟨a, b, c, d⟩ := last_ok st fr h
  refine Ev.step (f := fun k => prompterref08_Check.j6 k l (st ++ [fr]) dp ((at_ : Int) - 1) false) (fun k => ?_) (Ev.step (fun k => ?_) hr)
  · show prompterref08_Check.l1 (k + 1) _ _ _ _ = _
    rw [prompterref08_Check.l1, if_pos a, if_pos b, if_pos c, rd85_last st fr h, beq_eq_false_iff_ne.mpr hne]
  · show prompterref08_Check.j6 (k + 1) _ _ _ _ _ = _
    rw [prompterref08_Check.j6, if_neg (by decide)]
    have : wrap64 ((at_ : Int) - 1 + 1) = (at_ : Int) := by unfold wrap64; omega
    rw [this]
theorem l1_pop (l : List S43) (st : List S85) (up fr : S85) (h : st.length ≤ 4000) (he : fr.f1 = fr.f2) (hw : 0 ≤ up.f1 ∧ up.f1 ≤ 5000) (dp at_ : Int) (r : Int × Int) (hr : Ev (fun k => prompterref08_Check.l1 k l (st ++ [⟨up.f0, up.f1 + 1, up.f2⟩]) dp at_) r) :
    Ev (fun k => prompterref08_Check.l1 k l (st ++ [up] ++ [fr]) dp at_) r := by
  have h2 : (st ++ [up]).length ≤ 5000 := by rw [List.length_append, List.length_singleton]; omega
  obtain ⟨a, b, c, d⟩ := last_ok (st ++ [up]) fr h2
  obtain ⟨a', b', c', d'⟩ := last_ok st up (by omega)
  refine Ev.step (f := fun k => prompterref08_Check.j6 k l (st ++ [up] ++ [fr]) dp at_ true) (fun k => ?_) (Ev.step (fun k => ?_) hr)
  · show prompterref08_Check.l1 (k + 1) _ _ _ _ = _
    rw [prompterref08_Check.l1, if_pos a, if_pos b, if_pos c, rd85_last (st ++ [up]) fr h2, beq_iff_eq.mpr he]
  · show prompterref08_Check.j6 (k + 1) _ _ _ _ _ = _
    rw [prompterref08_Check.j6, if_pos rfl, if_pos b, if_pos (Int.le_of_lt c), d, List.take_left]
    simp only [Option.bind_some]
    rw [if_pos a', if_pos b', if_pos c', rd85_last st up (by omega), d']
    have e1 : wrap64 (up.f1 + 1) = up.f1 + 1 := by unfold wrap64; omega
    have e2 : (st ++ [up]).set st.length ⟨up.f0, wrap64 (up.f1 + 1), up.f2⟩ = st ++ [⟨up.f0, up.f1 + 1, up.f2⟩] := by
      rw [e1, List.set_append_right _ _ (Nat.le_refl _), Nat.sub_self]
      rfl
    rw [e2]
theorem l1_last (l : List S43) (fr : S85) (he : fr.f1 = fr.f2) (dp : Int) (at_ : Nat) (ha : 1 ≤ at_ ∧ at_ ≤ 5000) (r : Int × Int) (hr : Ev (fun k => prompterref08_Check.l0 k l [] dp (at_ : Int)) r) :
    Ev (fun k => prompterref08_Check.l1 k l [fr] dp ((at_ : Int) - 1)) r := by
  have w : wrap64 (((([fr] : List S85).length : Nat) : Int) - 1) = 0 := by unfold wrap64; simp
  refine Ev.step (f := fun k => prompterref08_Check.j6 k l [fr] dp ((at_ : Int) - 1) true) (fun k => ?_) (Ev.step (f := fun k => prompterref08_Check.l1 k l [] dp ((at_ : Int) - 1)) (fun k => ?_) (Ev.step (f := fun k => prompterref08_Check.j6 k l [] dp ((at_ : Int) - 1) false) (fun k => ?_) (Ev.step (fun k => ?_) hr)))
  · show prompterref08_Check.l1 (k + 1) _ _ _ _ = _
    rw [prompterref08_Check.l1, w, if_pos (by simp), if_pos (by decide), if_pos (by simp)]
    have : rd_T85 [fr] 0 = fr := rfl
    rw [this, beq_iff_eq.mpr he]
  · show prompterref08_Check.j6 (k + 1) _ _ _ _ _ = _
    rw [prompterref08_Check.j6, if_pos rfl, w, if_pos (by decide), if_pos (by simp)]
    rfl
  · show prompterref08_Check.l1 (k + 1) _ _ _ _ = _
    rw [prompterref08_Check.l1, if_neg (by simp)]
  · show prompterref08_Check.j6 (k + 1) _ _ _ _ _ = _
    rw [prompterref08_Check.j6, if_neg (by decide)]
    have : wrap64 ((at_ : Int) - 1 + 1) = (at_ : Int) := by unfold wrap64; omega
    rw [this]
end Go.Proofs.Ytlbchdalimngjaa.Tree
namespace Go.Proofs.Ytlbchdalimngjaa.Tree
open Go.RowKit Go.Proofs.YtlbchdalimngjaaW.PrintWords Go.Proofs.YtlbchdalimngjaaW.PrintLast Go.Proofs.Ytlbchdalimngjaa.P Go.Proofs.Ytlbchdalimngjaa.Lex
set_option linter.unusedVariables false
set_option linter.unusedSimpArgs false
def topP (st : List S85) (q : Int) : Bool := match st.getLast? with
  | none => true
  | some fr => refPart fr.f0 fr.f1 fr.f2 q
def done (x : S43) : S85 := ⟨x.f0, x.f1, x.f1⟩
theorem topP_snoc (st : List S85) (fr : S85) (q : Int) : topP (st ++ [fr]) q = refPart fr.f0 fr.f1 fr.f2 q := by
  unfold topP
  rw [List.getLast?_append]
  rfl
def Goes (l : List S43) (w : Int × Int × Int) (low : Nat) (fin : List S85) (start : Nat → Option (Int × Int)) : Prop :=
  (0 ≤ w.2.1 ∧ Ev start (w.2.1, 3)) ∨ (w.2.1 = -1 ∧ ∃ m : Nat, w.1 = (m : Int) ∧ low ≤ m ∧ m ≤ l.length ∧ ∀ r, Ev (fun k => prompterref08_Check.l1 k l fin w.2.2 ((m : Int) - 1)) r → Ev start r)
def WalkOk (l : List S43) (n : Nat) : Prop := ∀ (at_ : Nat) (p : Int → Bool) (dp : Int) (st : List S85), l.length - at_ < n → at_ ≤ l.length → st.length ≤ at_ → (0 < at_ → st ≠ []) → (∀ q, p q = topP st q) → (∀ fr, st.getLast? = some fr → 0 ≤ fr.f2 ∧ fr.f2 ≤ 2048) →
  ∃ w, Ev (fun k => tree_Check.walk l k (at_ : Int) ((st.length : Int) + 1) p (-1) dp) w ∧ Goes l w (at_ + 1) (st ++ [done (rd_T43 l (at_ : Int))]) (fun k => prompterref08_Check.l0 k l st dp (at_ : Int))
def KidsOk (l : List S43) (n : Nat) : Prop := ∀ (nx : Nat) (x : S43) (i : Nat) (dp : Int) (st : List S85), l.length - nx < n → nx ≤ l.length → 1 ≤ nx → st.length < nx → (i : Int) ≤ x.f1 → x.f1 ≤ 2048 → (∃ f, formOf x.f0 = some f) → kidsB x.f0 x.f1 = true →
  ∃ w, Ev (fun k => tree_Check.kids l k x (nx : Int) ((st.length : Int) + 1) (i : Int) (-1) dp) w ∧ Goes l w nx (st ++ [done x]) (fun k => prompterref08_Check.l1 k l (st ++ [⟨x.f0, (i : Int), x.f1⟩]) dp ((nx : Int) - 1))
theorem kids_ok {l : List S43} (hl : l.length ≤ 2048) {n : Nat} (A : WalkOk l (n + 1)) (B : KidsOk l n) : KidsOk l (n + 1) := by
  intro nx x i dp st hn hle h1 hst hi h2048 hform hkids
  by_cases hend : (i : Int) < x.f1
  · obtain ⟨f, hf⟩ := hform
    have hp : ∀ q, (fun op => partB ((formOf x.f0).getD ⟨0, 0, 0, 0⟩).pt (i : Int) x.f1 op) q = topP (st ++ [⟨x.f0, (i : Int), x.f1⟩]) q := by
      intro q
      rw [topP_snoc, hf]
      exact partB_is hf (i : Int) x.f1 q (by omega) hend hkids h2048
    obtain ⟨w, hw, hg⟩ := A nx (fun op => partB ((formOf x.f0).getD ⟨0, 0, 0, 0⟩).pt (i : Int) x.f1 op) dp (st ++ [⟨x.f0, (i : Int), x.f1⟩]) hn hle (by rw [List.length_append, List.length_singleton]; omega) (fun _ => by simp) hp (by
      intro fr hfr
      rw [List.getLast?_append] at hfr
      have : (⟨x.f0, (i : Int), x.f1⟩ : S85) = fr := by simpa using hfr
      rw [← this]
      dsimp only
      omega)
    have ew : wrap64 (((st.length : Int) + 1) + 1) = (((st ++ [(⟨x.f0, (i : Int), x.f1⟩ : S85)]).length : Nat) : Int) + 1 := by rw [List.length_append, List.length_singleton, w64 (by omega) (by omega)]; omega
    have ei : wrap64 ((i : Int) + 1) = ((i + 1 : Nat) : Int) := w64 (by omega) (by omega)
    have kstep : ∀ v, Ev (fun k => tree_Check.kids l k x w.1 ((st.length : Int) + 1) ((i + 1 : Nat) : Int) w.2.1 w.2.2) v → Ev (fun k => tree_Check.kids l k x (nx : Int) ((st.length : Int) + 1) (i : Int) (-1) dp) v := by
      intro v hv
      refine Ev.step (f := fun k => (tree_Check.walk l k (nx : Int) (wrap64 (((st.length : Int) + 1) + 1)) (fun op => partB ((formOf x.f0).getD ⟨0, 0, 0, 0⟩).pt (i : Int) x.f1 op) (-1) dp).bind fun q => tree_Check.kids l k x q.1 ((st.length : Int) + 1) (wrap64 ((i : Int) + 1)) q.2.1 q.2.2) (fun k => ?_) ?_
      · show tree_Check.kids l (k + 1) _ _ _ _ _ _ = _
        rw [tree_Check.kids, if_pos hend, if_pos (by decide)]
      · rw [ew, ei]
        exact Ev.bind hw hv
    have ref1 : ∀ r, Ev (fun k => prompterref08_Check.l0 k l (st ++ [⟨x.f0, (i : Int), x.f1⟩]) dp (nx : Int)) r → Ev (fun k => prompterref08_Check.l1 k l (st ++ [⟨x.f0, (i : Int), x.f1⟩]) dp ((nx : Int) - 1)) r :=
      fun r hr => l1_stop l st ⟨x.f0, (i : Int), x.f1⟩ (by omega) (by show (i : Int) ≠ x.f1; omega) dp nx ⟨h1, by omega⟩ r hr
    rcases hg with ⟨g1, g2⟩ | ⟨g1, m, g2, g3, g4, g5⟩
    · refine ⟨w, kstep w ?_, .inl ⟨g1, ref1 _ g2⟩⟩
      refine Ev.step (f := fun _ => some w) (fun k => ?_) (Ev.now _)
      show tree_Check.kids l (k + 1) _ _ _ _ _ _ = _
      rw [tree_Check.kids]
      split
      · rw [if_neg (by omega)]
      · rfl
    · obtain ⟨v, hv, hgv⟩ := B m x (i + 1) w.2.2 st (by omega) g4 (by omega) (by omega) (by omega) h2048 ⟨f, hf⟩ hkids
      have back : ∀ r, Ev (fun k => prompterref08_Check.l1 k l (st ++ [⟨x.f0, ((i + 1 : Nat) : Int), x.f1⟩]) w.2.2 ((m : Int) - 1)) r → Ev (fun k => prompterref08_Check.l1 k l (st ++ [⟨x.f0, (i : Int), x.f1⟩]) dp ((nx : Int) - 1)) r := by
        intro r hr
        refine ref1 r (g5 r ?_)
        exact l1_pop l st ⟨x.f0, (i : Int), x.f1⟩ (done (rd_T43 l (nx : Int))) (by omega) rfl ⟨by show (0 : Int) ≤ (i : Int); omega, by show (i : Int) ≤ 5000; omega⟩ w.2.2 _ r hr
      refine ⟨v, kstep v (by rw [g1, g2]; exact hv), ?_⟩
      rcases hgv with ⟨q1, q2⟩ | ⟨q1, m2, q2, q3, q4, q5⟩
      · exact .inl ⟨q1, back _ q2⟩
      · exact .inr ⟨q1, m2, q2, by omega, q4, fun r hr => back r (q5 r hr)⟩
  · have hi2 : (i : Int) = x.f1 := by omega
    refine ⟨((nx : Int), -1, dp), Ev.step (f := fun _ => some _) (fun k => ?_) (Ev.now _), .inr ⟨rfl, nx, rfl, Nat.le_refl _, hle, fun r hr => ?_⟩⟩
    · show tree_Check.kids l (k + 1) _ _ _ _ _ _ = _
      rw [tree_Check.kids, if_neg hend]
    · rw [hi2]
      exact hr
theorem walk_ok {l : List S43} (hl : l.length ≤ 2048) {n : Nat} (B : KidsOk l n) : WalkOk l (n + 1) := by
  intro at_ p dp st hn hle hst hne hp htop
  by_cases hat : at_ < l.length
  · obtain ⟨x, hx⟩ : ∃ x, x = rd_T43 l (at_ : Int) := ⟨_, rfl⟩
    rw [← hx]
    obtain ⟨own, ho1, ho2⟩ := own_both x.f3
    have hbad := bad_is x own ho1 p
    have hfine := fine_is x own ho2
    have verdict : ∀ r, Ev (fun k => prompterref08_Check.j1 k l st dp (at_ : Int) (!fineB x own) x.f0 x.f1 x.f2 x.f3) r → Ev (fun k => prompterref08_Check.l0 k l st dp (at_ : Int)) r := by
      intro r hr
      refine Ev.step (f := fun k => (prompterref08_fine.f k x.f0 x.f1 x.f2 x.f3).bind fun t405 => prompterref08_Check.j1 k l st dp (at_ : Int) (!t405) x.f0 x.f1 x.f2 x.f3) (fun k => ?_) (Ev.bind hfine hr)
      show prompterref08_Check.l0 (k + 1) _ _ _ _ = _
      rw [prompterref08_Check.l0, if_pos (by omega), if_pos (by omega), ← hx]
      by_cases h0 : 0 < at_
      · have : 0 < st.length := List.length_pos_iff.2 (hne h0)
        rw [if_pos (by omega), if_neg (by omega)]
      · rw [if_neg (by omega)]
    have wrong : Ev (fun k => prompterref08_Check.j1 k l st dp (at_ : Int) true x.f0 x.f1 x.f2 x.f3) ((at_ : Int), 3) := by
      refine Ev.step (f := fun _ => some _) (fun k => ?_) (Ev.now _)
      show prompterref08_Check.j1 (k + 1) _ _ _ _ _ _ _ _ _ = _
      rw [prompterref08_Check.j1, if_pos rfl]
    have parts : ∀ r, Ev (fun k => if topP st x.f0 = true then prompterref08_Check.j2 k l st dp (at_ : Int) x.f0 x.f1 x.f2 x.f3 else some ((at_ : Int), 3)) r → Ev (fun k => prompterref08_Check.j1 k l st dp (at_ : Int) false x.f0 x.f1 x.f2 x.f3) r := by
      intro r hr
      rcases List.eq_nil_or_concat st with hs | ⟨st', fr, hs⟩
      · subst hs
        refine Ev.step (fun k => ?_) hr
        show prompterref08_Check.j1 (k + 1) _ _ _ _ _ _ _ _ _ = _
        rw [prompterref08_Check.j1, if_neg (by decide), if_neg (by simp)]
        exact (if_pos rfl).symm
      · rw [List.concat_eq_append] at hs
        subst hs
        have hlen : st'.length ≤ 5000 := by rw [List.length_append, List.length_singleton] at hst; omega
        obtain ⟨a, b, c, d⟩ := last_ok st' fr hlen
        rw [topP_snoc] at hr
        have hfr := htop fr (by rw [List.getLast?_append]; rfl)
        refine Ev.step (f := fun k => (prompterref08_part.f k fr.f0 fr.f1 fr.f2 x.f0).bind fun t409 => (if t409 = true then (prompterref08_Check.j2 k l (st' ++ [fr]) dp (at_ : Int) x.f0 x.f1 x.f2 x.f3) else (some ((at_ : Int), 3)))) (fun k => ?_) (Ev.bind (part_is fr.f0 fr.f1 fr.f2 x.f0 hfr) hr)
        show prompterref08_Check.j1 (k + 1) _ _ _ _ _ _ _ _ _ = _
        rw [prompterref08_Check.j1, if_neg (by decide), if_pos a, if_pos b, if_pos c, rd85_last st' fr hlen]
    have wstep : ∀ v (bv : Bool), Ev (fun k => tree_Check.bad k x p) bv → Ev (fun k => if bv = true then some ((at_ : Int), (at_ : Int), dp) else tree_Check.kids l k x ((at_ + 1 : Nat) : Int) ((st.length : Int) + 1) 0 (-1) (if (st.length : Int) + 1 > 40 then (if dp < 0 then (at_ : Int) else dp) else dp)) v →
        Ev (fun k => tree_Check.walk l k (at_ : Int) ((st.length : Int) + 1) p (-1) dp) v := by
      intro v bv hb hv
      refine Ev.step (f := fun k => (tree_Check.bad k x p).bind fun b => if b = true then some ((at_ : Int), (at_ : Int), dp) else tree_Check.kids l k x ((at_ + 1 : Nat) : Int) ((st.length : Int) + 1) 0 (-1) (if (st.length : Int) + 1 > 40 then (if dp < 0 then (at_ : Int) else dp) else dp)) (fun k => ?_) (Ev.bind hb hv)
      show tree_Check.walk l (k + 1) _ _ _ _ _ = _
      rw [tree_Check.walk, if_pos (by omega), if_pos (by omega), ← hx, w64 (by omega) (by omega)]
      rfl
    cases hf : fineB x own with
    | false =>
      rw [hf, Bool.and_false] at hbad
      refine ⟨((at_ : Int), (at_ : Int), dp), wstep _ true hbad (Ev.congr (fun k => if_pos rfl) (Ev.now _)), .inl ⟨by show (0 : Int) ≤ (at_ : Int); omega, verdict _ (by rw [hf]; exact wrong)⟩⟩
    | true =>
      rw [hf, Bool.and_true, hp] at hbad
      cases ht : topP st x.f0 with
      | false =>
        rw [ht] at hbad
        refine ⟨((at_ : Int), (at_ : Int), dp), wstep _ true hbad (Ev.congr (fun k => if_pos rfl) (Ev.now _)), .inl ⟨by show (0 : Int) ≤ (at_ : Int); omega, verdict _ (by rw [hf]; exact parts _ (by rw [ht]; exact Ev.congr (fun k => if_neg (by decide)) (Ev.now _)))⟩⟩
      | true =>
        rw [ht] at hbad
        unfold fineB at hf
        simp only [Bool.and_eq_true] at hf
        obtain ⟨hok, _, _, hkids⟩ := hf
        have hform : ∃ f, formOf x.f0 = some f := by
          cases h : formOf x.f0 with
          | some f => exact ⟨f, rfl⟩
          | none => rw [form_no h] at hok; cases hok
        have hk2 := hkids
        unfold kidsB at hk2
        have hk3 := of_decide_eq_true hk2
        have hl0 := (least_is hok).2
        have hm3 := (most_is hok).2
        have h0 : (0 : Int) ≤ x.f1 := by omega
        have h2048 : x.f1 ≤ 2048 := by
          have := hk3.2
          split at this <;> omega
        obtain ⟨dq, hdq⟩ : ∃ dq, dq = (if (st.length : Int) + 1 > 40 then (if dp < 0 then (at_ : Int) else dp) else dp) := ⟨_, rfl⟩
        obtain ⟨v, hv, hg⟩ := B (at_ + 1) x 0 dq st (by omega) (by omega) (by omega) (by omega) h0 h2048 hform hkids
        refine ⟨v, wstep v false hbad (Ev.congr (fun k => if_neg (by decide)) (by rw [← hdq]; exact hv)), ?_⟩
        have enter : ∀ r, Ev (fun k => prompterref08_Check.l1 k l (st ++ [⟨x.f0, ((0 : Nat) : Int), x.f1⟩]) dq (((at_ + 1 : Nat) : Int) - 1)) r → Ev (fun k => prompterref08_Check.l0 k l st dp (at_ : Int)) r := by
          intro r hr
          refine verdict r ?_
          have hfb : fineB x own = true := by unfold fineB; simp only [Bool.and_eq_true]; exact ⟨hok, ‹_›, ‹_›, hkids⟩
          rw [hfb]
          refine parts r ?_
          rw [ht]
          refine Ev.congr (fun k => if_pos rfl) ?_
          have e1 : (((at_ + 1 : Nat) : Int) - 1) = (at_ : Int) := by omega
          rw [e1] at hr
          have push : Ev (fun k => prompterref08_Check.j4 k l st dq (at_ : Int) x.f0 x.f1 x.f2 x.f3) r := by
            refine Ev.step (fun k => ?_) hr
            show prompterref08_Check.j4 (k + 1) _ _ _ _ _ _ _ _ = _
            rw [prompterref08_Check.j4, if_pos (by omega)]
            rfl
          refine Ev.step (f := fun k => prompterref08_Check.j3 k l st dp (at_ : Int) (decide (dp < 0 ∧ (st.length : Int) ≥ 40)) x.f0 x.f1 x.f2 x.f3) (fun k => ?_) (Ev.step (fun k => ?_) push)
          · show prompterref08_Check.j2 (k + 1) _ _ _ _ _ _ _ _ = _
            rw [prompterref08_Check.j2]
            by_cases hd : dp < 0
            · rw [if_pos hd]
              congr 1
              exact decide_eq_decide.2 ⟨fun y => ⟨hd, y⟩, fun y => y.2⟩
            · rw [if_neg hd, decide_eq_false (fun y => hd y.1)]
          · show prompterref08_Check.j3 (k + 1) _ _ _ _ _ _ _ _ _ = _
            rw [prompterref08_Check.j3]
            by_cases hd : dp < 0 ∧ (st.length : Int) ≥ 40
            · rw [decide_eq_true hd, if_pos rfl, hdq, if_pos (by omega), if_pos hd.1]
            · rw [decide_eq_false hd, if_neg (by decide), hdq]
              congr 1
              split
              · rw [if_neg (by omega)]
              · rfl
        rcases hg with ⟨q1, q2⟩ | ⟨q1, m2, q2, q3, q4, q5⟩
        · exact .inl ⟨q1, enter _ q2⟩
        · exact .inr ⟨q1, m2, q2, q3, q4, fun r hr => enter r (q5 r hr)⟩
  · have he : at_ = l.length := by omega
    refine ⟨((at_ : Int), (l.length : Int), dp), Ev.step (f := fun _ => some _) (fun k => ?_) (Ev.now _), .inl ⟨by show (0 : Int) ≤ (l.length : Int); omega, ?_⟩⟩
    · show tree_Check.walk l (k + 1) _ _ _ _ _ = _
      rw [tree_Check.walk, if_neg (by omega)]
    · have j7 : Ev (fun k => prompterref08_Check.j7 k l dp true) ((l.length : Int), 3) := by
        refine Ev.step (f := fun _ => some _) (fun k => ?_) (Ev.now _)
        show prompterref08_Check.j7 (k + 1) _ _ _ = _
        rw [prompterref08_Check.j7, if_pos rfl]
      refine Ev.step (fun k => ?_) j7
      show prompterref08_Check.l0 (k + 1) _ _ _ _ = _
      rw [prompterref08_Check.l0, if_neg (by omega)]
      by_cases h0 : (l.length : Int) = 0
      · rw [if_pos h0]
      · have : 0 < st.length := List.length_pos_iff.2 (hne (by omega))
        rw [if_neg h0, decide_eq_true (by omega)]
theorem both_ok {l : List S43} (hl : l.length ≤ 2048) : ∀ n, WalkOk l n ∧ KidsOk l n
  | 0 => ⟨fun _ _ _ _ h => absurd h (Nat.not_lt_zero _), fun _ _ _ _ _ h => absurd h (Nat.not_lt_zero _)⟩
  | n + 1 => by
    obtain ⟨_, B⟩ := both_ok hl n
    have A := walk_ok hl B
    exact ⟨A, kids_ok hl A B⟩
theorem check_both (l : List S43) : ∃ r, Ev (fun k => tree_Check.f k l) r ∧ Ev (fun k => prompterref08_Check.f k l) r := by
  by_cases h : (l.length : Int) > 2048
  · refine ⟨(0, 2), Ev.congr (fun k => ?_) (Ev.now _), Ev.congr (fun k => ?_) (Ev.now _)⟩
    · show tree_Check.f k l = _
      rw [tree_Check.f, if_pos h]
    · show prompterref08_Check.f k l = _
      rw [prompterref08_Check.f, if_pos h]
  obtain ⟨w, hw, hg⟩ := (both_ok (show l.length ≤ 2048 by omega) (l.length + 1)).1 0 (fun _ => true) (-1) [] (by omega) (by omega) (by simp) (by simp) (fun q => rfl) (by simp)
  have ref : ∀ r, Ev (fun k => prompterref08_Check.l0 k l [] (-1) 0) r → Ev (fun k => prompterref08_Check.f k l) r := by
    intro r hr
    refine Ev.congr (fun k => ?_) hr
    show prompterref08_Check.f k l = _
    rw [prompterref08_Check.f, if_neg h]
  have tr : ∀ r, (if 0 ≤ w.2.1 then some (w.2.1, (3 : Int)) else if w.1 < (l.length : Int) then some (w.1, 3) else if 0 ≤ w.2.2 then some (w.2.2, 2) else some (0, 0)) = some r → Ev (fun k => tree_Check.f k l) r := by
    intro r hr
    refine Ev.congr (f := fun k => (tree_Check.walk l k 0 1 (fun _ => true) (-1) (-1)).bind fun q => if 0 ≤ q.2.1 then some (q.2.1, 3) else if q.1 < (l.length : Int) then some (q.1, 3) else if 0 ≤ q.2.2 then some (q.2.2, 2) else some (0, 0)) (fun k => ?_) (Ev.bind hw ?_)
    · show tree_Check.f k l = _
      rw [tree_Check.f, if_neg h]
    · rw [hr]
      exact Ev.now _
  rcases hg with ⟨g1, g2⟩ | ⟨g1, m, g2, g3, g4, g5⟩
  · exact ⟨(w.2.1, 3), tr _ (if_pos g1), ref _ g2⟩
  · have last : ∀ r, Ev (fun k => prompterref08_Check.l0 k l [] w.2.2 (m : Int)) r → Ev (fun k => prompterref08_Check.f k l) r := fun r hr => ref r (g5 r (l1_last l _ rfl w.2.2 m ⟨by omega, by omega⟩ r hr))
    by_cases hm : m < l.length
    · refine ⟨((m : Int), 3), tr _ (by rw [if_neg (by omega), if_pos (by omega), g2]), last _ ?_⟩
      refine Ev.step (f := fun k => prompterref08_Check.j1 k l [] w.2.2 (m : Int) true (rd_T43 l (m : Int)).f0 (rd_T43 l (m : Int)).f1 (rd_T43 l (m : Int)).f2 (rd_T43 l (m : Int)).f3) (fun k => ?_) (Ev.step (f := fun _ => some _) (fun k => ?_) (Ev.now _))
      · show prompterref08_Check.l0 (k + 1) _ _ _ _ = _
        rw [prompterref08_Check.l0, if_pos (by omega), if_pos (by omega), if_pos (by omega), if_pos (by simp)]
      · show prompterref08_Check.j1 (k + 1) _ _ _ _ _ _ _ _ _ = _
        rw [prompterref08_Check.j1, if_pos rfl]
    · have j7 : ∀ r, Ev (fun k => prompterref08_Check.j7 k l w.2.2 false) r → Ev (fun k => prompterref08_Check.l0 k l [] w.2.2 (m : Int)) r := by
        intro r hr
        refine Ev.step (fun k => ?_) hr
        show prompterref08_Check.l0 (k + 1) _ _ _ _ = _
        rw [prompterref08_Check.l0, if_neg (by omega), if_neg (by omega), decide_eq_false (by simp)]
      by_cases hd : 0 ≤ w.2.2
      · refine ⟨(w.2.2, 2), tr _ (by rw [if_neg (by omega), if_neg (by omega), if_pos hd]), last _ (j7 _ (Ev.step (f := fun _ => some _) (fun k => ?_) (Ev.now _)))⟩
        show prompterref08_Check.j7 (k + 1) _ _ _ = _
        rw [prompterref08_Check.j7, if_neg (by decide), if_pos hd]
      · refine ⟨(0, 0), tr _ (by rw [if_neg (by omega), if_neg (by omega), if_neg hd]), last _ (j7 _ (Ev.step (f := fun _ => some _) (fun k => ?_) (Ev.now _)))⟩
        show prompterref08_Check.j7 (k + 1) _ _ _ = _
        rw [prompterref08_Check.j7, if_neg (by decide), if_neg (by omega)]
end Go.Proofs.Ytlbchdalimngjaa.Tree
namespace Go.Proofs.Ytlbchdalimngjaa.Tree
open Go.RowKit Go.Proofs.YtlbchdalimngjaaW.PrintWords Go.Proofs.YtlbchdalimngjaaW.PrintLast Go.Proofs.Ytlbchdalimngjaa.P Go.Proofs.Ytlbchdalimngjaa.Lex
set_option linter.unusedVariables false
set_option linter.unusedSimpArgs false
abbrev Tw := S43
mutual
inductive T where
  | node (x : Tw) (ks : Ts)
inductive Ts where
  | nil
  | cons (t : T) (ts : Ts)
end
mutual
def T.flat : T → List Tw
  | .node x ks => x :: ks.flat
def Ts.flat : Ts → List Tw
  | .nil => []
  | .cons t ts => t.flat ++ ts.flat
end
def Ts.len : Ts → Nat
  | .nil => 0
  | .cons _ ts => ts.len + 1
mutual
def T.depth : T → Nat
  | .node _ ks => ks.depth + 1
def Ts.depth : Ts → Nat
  | .nil => 0
  | .cons t ts => max t.depth ts.depth
end
def kwB (s : ByteArray) : Bool := (token_Keyword.f s).getD false
theorem kw_some (s : ByteArray) : token_Keyword.f s = some (kwB s) := by
  unfold kwB token_Keyword.f
  simp only [ite_or]
  rfl
def ownB (s : ByteArray) : Bool := nameL s.data.toList && !kwB s
theorem own_is (s : ByteArray) : Ev (fun k => tree_own.f k s) (ownB s) := by
  refine Ev.bind (f := fun _ t => if t = true then ((token_Keyword.f s).bind fun t346 => (some (!t346))) else (some false)) (value_is s) ?_
  refine Ev.congr (f := fun _ => some _) (fun k => ?_) (Ev.now _)
  unfold ownB
  rw [kw_some]
  cases nameL s.data.toList <;> rfl
mutual
def T.ok : T → (Int → Bool) → Bool
  | .node x ks, p => p x.f0 && (fineB x (ownB x.f3) && (decide (x.f1 = (ks.len : Int)) && ks.ok x 0))
def Ts.ok : Ts → Tw → Int → Bool
  | .nil, _, _ => true
  | .cons t ts, x, i => t.ok (refPart x.f0 i x.f1) && ts.ok x (i + 1)
end
theorem T.flat_pos (t : T) : 1 ≤ t.flat.length := by
  cases t
  rw [T.flat, List.length_cons]
  omega
theorem T.depth_pos (t : T) : 1 ≤ t.depth := by
  cases t
  rw [T.depth]
  omega
theorem Ev.one {α : Type} {g : Nat → Option α} {a r : α} (hg : ∀ k, LeO (g k) (g (k + 1))) {k : Nat} (h : g k = some a) (e : Ev g r) : a = r := by
  obtain ⟨n, hn⟩ := Ev.of hg h
  obtain ⟨m, hm⟩ := e
  have h1 := hn (max n m) (by omega)
  have h2 := hm (max n m) (by omega)
  rw [h1] at h2
  exact Option.some.inj h2
theorem rd_tw {l : List Tw} {i : Nat} {x : Tw} {r : List Tw} (h : l.drop i = x :: r) : rd_T43 l (i : Int) = x ∧ i < l.length ∧ l.drop (i + 1) = r := by
  have hlt : i < l.length := by
    rcases Nat.lt_or_ge i l.length with h1 | h1
    · exact h1
    · rw [List.drop_eq_nil_of_le h1] at h; cases h
  rw [List.drop_eq_getElem_cons hlt] at h
  injection h with h1 h2
  refine ⟨?_, hlt, h2⟩
  unfold rd_T43
  rw [List.getD_eq_getElem?_getD, Int.toNat_natCast, List.getElem?_eq_getElem hlt, h1]
  rfl
theorem drop_app {l : List Tw} {i : Nat} {a b : List Tw} (h : l.drop i = a ++ b) : l.drop (i + a.length) = b ∧ i + a.length ≤ max l.length i := by
  have h1 : (l.drop i).drop a.length = b := by rw [h, List.drop_left]
  rw [List.drop_drop] at h1
  refine ⟨h1, ?_⟩
  have := congrArg List.length h
  rw [List.length_drop, List.length_append] at this
  omega
theorem form_ok {op : Int} (h : okOp op = true) : ∃ f, formOf op = some f := by
  cases hf : formOf op with
  | some f => exact ⟨f, rfl⟩
  | none => rw [form_no hf] at h; cases h
theorem kids_range {op n : Int} (h : okOp op = true) (hk : leastI op ≤ n ∧ n ≤ (if mostI op < 0 then 2048 else mostI op)) : 0 ≤ n ∧ n ≤ 2048 := by
  have := (least_is h).2
  have := (most_is h).2
  split at hk <;> omega
theorem fine_kids {x : Tw} {own : Bool} (h : fineB x own = true) : okOp x.f0 = true ∧ kidsB x.f0 x.f1 = true ∧ 0 ≤ x.f1 ∧ x.f1 ≤ 2048 := by
  unfold fineB at h
  simp only [Bool.and_eq_true] at h
  obtain ⟨h1, _, _, h2⟩ := h
  refine ⟨h1, h2, ?_⟩
  unfold kidsB at h2
  exact kids_range h1 (of_decide_eq_true h2)
theorem part_fun {x : Tw} {own : Bool} (h : fineB x own = true) (i : Int) (h0 : 0 ≤ i) (hi : i < x.f1) : (fun op => partB ((formOf x.f0).getD ⟨0, 0, 0, 0⟩).pt i x.f1 op) = refPart x.f0 i x.f1 := by
  obtain ⟨h1, h2, _, h4⟩ := fine_kids h
  obtain ⟨f, hf⟩ := form_ok h1
  funext q
  rw [hf]
  exact partB_is hf i x.f1 q h0 hi h2 h4
def deepAs (dp dq : Int) (lv : Nat) (d : Nat) : Prop := dq < 0 ↔ (dp < 0 ∧ (d = 0 ∨ lv + d ≤ 41))
def WalkSays (l : List Tw) (k : Nat) : Prop := ∀ (a lv : Nat) (p : Int → Bool) (dp m dq : Int), a ≤ l.length → lv ≤ a + 1 → 1 ≤ lv → tree_Check.walk l k (a : Int) (lv : Int) p (-1) dp = some (m, -1, dq) →
  ∃ t : T, t.ok p = true ∧ l.drop a = t.flat ++ l.drop (a + t.flat.length) ∧ a + t.flat.length ≤ l.length ∧ m = ((a + t.flat.length : Nat) : Int) ∧ deepAs dp dq lv t.depth
def KidsSay (l : List Tw) (k : Nat) : Prop := ∀ (x : Tw) (a lv i : Nat) (dp m dq : Int), fineB x (ownB x.f3) = true → a ≤ l.length → lv + 1 ≤ a + 1 → 1 ≤ lv → (i : Int) ≤ x.f1 → tree_Check.kids l k x (a : Int) (lv : Int) (i : Int) (-1) dp = some (m, -1, dq) →
  ∃ ts : Ts, ts.ok x (i : Int) = true ∧ x.f1 = (i : Int) + (ts.len : Int) ∧ l.drop a = ts.flat ++ l.drop (a + ts.flat.length) ∧ a + ts.flat.length ≤ l.length ∧ m = ((a + ts.flat.length : Nat) : Int) ∧ deepAs dp dq (lv + 1) ts.depth
theorem walk_neg {l : List Tw} : ∀ (k : Nat), (∀ (a lv : Int) (p : Int → Bool) (dp m wr dq : Int), tree_Check.walk l k a lv p (-1) dp = some (m, wr, dq) → wr = -1 ∨ 0 ≤ wr) ∧ (∀ (x : Tw) (a lv i wr0 : Int) (dp m wr dq : Int), (wr0 = -1 ∨ 0 ≤ wr0) → tree_Check.kids l k x a lv i wr0 dp = some (m, wr, dq) → (wr = -1 ∨ 0 ≤ wr) ∧ (0 ≤ wr0 → wr = wr0))
  | 0 => ⟨fun _ _ _ _ _ _ _ h => by simp [tree_Check.walk] at h, fun _ _ _ _ _ _ _ _ _ _ h => by simp [tree_Check.kids] at h⟩
  | k + 1 => by
    obtain ⟨A, B⟩ := walk_neg (l := l) k
    refine ⟨fun a lv p dp m wr dq h => ?_, fun x a lv i wr0 dp m wr dq hw h => ?_⟩
    · rw [tree_Check.walk] at h
      split at h
      · split at h
        · obtain ⟨b, _, h⟩ := Option.bind_eq_some_iff.1 h
          cases b with
          | true =>
            simp only [if_true, Option.some.injEq, Prod.mk.injEq] at h
            omega
          | false =>
            simp only [Bool.false_eq_true, if_false] at h
            exact (B _ _ _ _ _ _ _ _ _ (.inl rfl) h).1
        · cases h
      · simp only [Option.some.injEq, Prod.mk.injEq] at h
        omega
    · rw [tree_Check.kids] at h
      split at h
      · split at h
        · obtain ⟨⟨m1, wr1, dq1⟩, h1, h2⟩ := Option.bind_eq_some_iff.1 h
          have hwr : wr0 = -1 := by omega
          subst hwr
          have h3 := A _ _ _ _ _ _ _ h1
          exact ⟨(B _ _ _ _ _ _ _ _ _ h3 h2).1, fun h => by omega⟩
        · simp only [Option.some.injEq, Prod.mk.injEq] at h
          obtain ⟨_, rfl, _⟩ := h
          exact ⟨hw, fun _ => rfl⟩
      · simp only [Option.some.injEq, Prod.mk.injEq] at h
        obtain ⟨_, rfl, _⟩ := h
        exact ⟨hw, fun _ => rfl⟩
theorem walk_says {l : List Tw} (hl : l.length ≤ 2048) : ∀ k, WalkSays l k ∧ KidsSay l k
  | 0 => ⟨fun _ _ _ _ _ _ _ _ _ h => by simp [tree_Check.walk] at h, fun _ _ _ _ _ _ _ _ _ _ _ _ h => by simp [tree_Check.kids] at h⟩
  | k + 1 => by
    obtain ⟨A, B⟩ := walk_says hl k
    refine ⟨fun a lv p dp m dq ha hlv h1 h => ?_, fun x a lv i dp m dq hf ha hlv h1 hi h => ?_⟩
    · rw [tree_Check.walk] at h
      split at h
      · rename_i hlt
        rw [if_pos (by omega)] at h
        obtain ⟨b, hb, h⟩ := Option.bind_eq_some_iff.1 h
        have hlt2 : a < l.length := by omega
        obtain ⟨hx, _, hd⟩ := rd_tw (List.drop_eq_getElem_cons hlt2)
        rw [hx] at hb h
        generalize l[a] = x at hx hb h
        have eb := Ev.one (tree_Check.bad_mono · x p) hb (bad_is x (ownB x.f3) (own_is x.f3) p)
        subst eb
        cases hp : p x.f0 && fineB x (ownB x.f3) with
        | false =>
          rw [hp] at h
          simp only [Bool.not_false, if_true, Option.some.injEq, Prod.mk.injEq] at h
          omega
        | true =>
          rw [hp] at h
          simp only [Bool.not_true, Bool.false_eq_true, if_false] at h
          rw [w64 (by omega) (by omega)] at h
          rw [Bool.and_eq_true] at hp
          have hk := fine_kids hp.2
          obtain ⟨ts, t1, t2, t3, t4, t5, t6⟩ := B x (a + 1) lv 0 _ m dq hp.2 (by omega) (by omega) h1 (by omega) h
          have e : a + 1 + ts.flat.length = a + (T.node x ts).flat.length := by rw [T.flat, List.length_cons]; omega
          refine ⟨.node x ts, ?_, ?_, ?_, ?_, ?_⟩
          · rw [T.ok, hp.1, hp.2, decide_eq_true (by omega)]
            exact t1
          · rw [← e, T.flat, List.cons_append, ← t3, List.drop_eq_getElem_cons hlt2]
            congr 1
            have := rd_tw (List.drop_eq_getElem_cons hlt2)
            rw [← this.1, hx]
          · omega
          · rw [t5, e]
          · unfold deepAs at t6 ⊢
            rw [t6, T.depth]
            by_cases c1 : (lv : Int) > 40
            · rw [if_pos c1]
              by_cases c2 : dp < 0
              · rw [if_pos c2]; omega
              · rw [if_neg c2]; omega
            · rw [if_neg c1]; omega
      · simp only [Option.some.injEq, Prod.mk.injEq] at h
        omega
    · rw [tree_Check.kids] at h
      split at h
      · rename_i hlt
        rw [if_pos (by omega)] at h
        obtain ⟨⟨m1, wr1, dq1⟩, hq, h⟩ := Option.bind_eq_some_iff.1 h
        dsimp only at h
        have hk := fine_kids hf
        have hwr : wr1 = -1 := by
          rcases (walk_neg k).1 _ _ _ _ _ _ _ hq with h3 | h3
          · exact h3
          · have := ((walk_neg k).2 _ _ _ _ _ _ _ _ _ (.inr h3) h).2 h3
            omega
        subst hwr
        rw [part_fun hf (i : Int) (by omega) hlt, w64 (by omega) (by omega)] at hq
        rw [w64 (by omega) (by omega)] at h
        obtain ⟨t, t1, t2, t3, t4, t5⟩ := A a (lv + 1) _ dp m1 dq1 ha (by omega) (by omega) hq
        subst t4
        obtain ⟨ts, s1, s2, s3, s4, s5, s6⟩ := B x (a + t.flat.length) lv (i + 1) dq1 m dq hf t3 (by omega) h1 (by omega) h
        have e : a + t.flat.length + ts.flat.length = a + (Ts.cons t ts).flat.length := by rw [Ts.flat, List.length_append]; omega
        refine ⟨.cons t ts, ?_, ?_, ?_, ?_, ?_, ?_⟩
        · rw [Ts.ok, t1]
          exact s1
        · rw [s2, Ts.len]; omega
        · rw [t2, s3, ← e, Ts.flat, List.append_assoc]
        · omega
        · rw [s5, e]
        · unfold deepAs at s6 t5 ⊢
          have := T.depth_pos t
          rw [s6, t5, Ts.depth]
          omega
      · rename_i hge
        simp only [Option.some.injEq, Prod.mk.injEq] at h
        obtain ⟨rfl, _, rfl⟩ := h
        refine ⟨.nil, rfl, ?_, ?_, ?_, ?_, ?_⟩
        · rw [Ts.len]; omega
        · rfl
        · rw [Ts.flat, List.length_nil]; omega
        · rw [Ts.flat, List.length_nil]; omega
        · unfold deepAs
          rw [Ts.depth]
          omega
mutual
theorem T.walks {l : List Tw} (hl : l.length ≤ 2048) : (t : T) → (a lv : Nat) → (p : Int → Bool) → (dp : Int) → (r : List Tw) → t.ok p = true → l.drop a = t.flat ++ r → lv ≤ a + 1 → 1 ≤ lv →
    ∃ dq, deepAs dp dq lv t.depth ∧ Ev (fun k => tree_Check.walk l k (a : Int) (lv : Int) p (-1) dp) (((a + t.flat.length : Nat) : Int), -1, dq)
  | .node x ks, a, lv, p, dp, r, hok, h, hlv, h1 => by
    rw [T.flat, List.cons_append] at h
    obtain ⟨hx, hlt, hd⟩ := rd_tw h
    rw [T.ok] at hok
    simp only [Bool.and_eq_true] at hok
    obtain ⟨o1, o2, o3, o4⟩ := hok
    have o3 := of_decide_eq_true o3
    obtain ⟨dq, d1, d2⟩ := Ts.walks hl ks x (a + 1) lv 0 (if (lv : Int) > 40 then (if dp < 0 then (a : Int) else dp) else dp) r o2 (by omega) o4 hd (by omega) h1
    refine ⟨dq, ?_, ?_⟩
    · unfold deepAs at d1 ⊢
      rw [d1, T.depth]
      by_cases c1 : (lv : Int) > 40
      · rw [if_pos c1]
        by_cases c2 : dp < 0
        · rw [if_pos c2]; omega
        · rw [if_neg c2]; omega
      · rw [if_neg c1]; omega
    · refine Ev.step (f := fun k => (tree_Check.bad k x p).bind fun b => if b = true then some ((a : Int), (a : Int), dp) else tree_Check.kids l k x ((a + 1 : Nat) : Int) (lv : Int) 0 (-1) (if (lv : Int) > 40 then (if dp < 0 then (a : Int) else dp) else dp)) (fun k => ?_) (Ev.bind (bad_is x (ownB x.f3) (own_is x.f3) p) ?_)
      · show tree_Check.walk l (k + 1) _ _ _ _ _ = _
        rw [tree_Check.walk, if_pos (by omega), if_pos (by omega), hx, w64 (by omega) (by omega)]
        rfl
      · refine Ev.congr (f := fun k => tree_Check.kids l k x ((a + 1 : Nat) : Int) (lv : Int) 0 (-1) (if (lv : Int) > 40 then (if dp < 0 then (a : Int) else dp) else dp)) (fun k => ?_) ?_
        · rw [o1, o2]
          rfl
        · have e : a + (T.node x ks).flat.length = a + 1 + ks.flat.length := by rw [T.flat, List.length_cons]; omega
          rw [e]
          exact d2
theorem Ts.walks {l : List Tw} (hl : l.length ≤ 2048) : (ts : Ts) → (x : Tw) → (a lv i : Nat) → (dp : Int) → (r : List Tw) → fineB x (ownB x.f3) = true → x.f1 = (i : Int) + (ts.len : Int) → ts.ok x (i : Int) = true → l.drop a = ts.flat ++ r → lv + 1 ≤ a + 1 → 1 ≤ lv →
    ∃ dq, deepAs dp dq (lv + 1) ts.depth ∧ Ev (fun k => tree_Check.kids l k x (a : Int) (lv : Int) (i : Int) (-1) dp) (((a + ts.flat.length : Nat) : Int), -1, dq)
  | .nil, x, a, lv, i, dp, r, hf, hn, hok, h, hlv, h1 => by
    refine ⟨dp, ?_, ?_⟩
    · unfold deepAs
      rw [Ts.depth]
      omega
    · refine Ev.step (f := fun _ => some _) (fun k => ?_) (Ev.now _)
      show tree_Check.kids l (k + 1) _ _ _ _ _ _ = _
      rw [Ts.len] at hn
      rw [tree_Check.kids, if_neg (by omega), Ts.flat, List.length_nil]
      rfl
  | .cons t ts, x, a, lv, i, dp, r, hf, hn, hok, h, hlv, h1 => by
    rw [Ts.len] at hn
    rw [Ts.ok, Bool.and_eq_true] at hok
    rw [Ts.flat, List.append_assoc] at h
    have hk := fine_kids hf
    obtain ⟨hd, _⟩ := drop_app h
    obtain ⟨d1, e1, w1⟩ := T.walks hl t a (lv + 1) (refPart x.f0 (i : Int) x.f1) dp (ts.flat ++ r) hok.1 h (by omega) (by omega)
    have := T.flat_pos t
    have ha : a < l.length := by
      rcases Nat.lt_or_ge a l.length with h2 | h2
      · exact h2
      · rw [List.drop_eq_nil_of_le h2] at h
        have := congrArg List.length h
        rw [List.length_append, List.length_nil] at this
        omega
    obtain ⟨d2, e2, w2⟩ := Ts.walks hl ts x (a + t.flat.length) lv (i + 1) d1 r hf (by omega) hok.2 hd (by omega) h1
    refine ⟨d2, ?_, ?_⟩
    · unfold deepAs at e1 e2 ⊢
      have := T.depth_pos t
      rw [e2, e1, Ts.depth]
      omega
    · have e : a + (Ts.cons t ts).flat.length = a + t.flat.length + ts.flat.length := by rw [Ts.flat, List.length_append]; omega
      rw [e]
      refine Ev.step (f := fun k => (tree_Check.walk l k (a : Int) ((lv + 1 : Nat) : Int) (refPart x.f0 (i : Int) x.f1) (-1) dp).bind fun q => tree_Check.kids l k x q.1 (lv : Int) ((i + 1 : Nat) : Int) q.2.1 q.2.2) (fun k => ?_) (Ev.bind w1 w2)
      show tree_Check.kids l (k + 1) _ _ _ _ _ _ = _
      rw [tree_Check.kids, if_pos (by omega), if_pos (by decide), part_fun hf (i : Int) (by omega) (by omega), w64 (by omega) (by omega), w64 (by omega) (by omega)]
      rfl
end
def anyOp : Int → Bool := fun _ => true
theorem check_tree {l : List Tw} (h : Ev (fun k => tree_Check.f k l) (0, 0)) : ∃ t : T, l = t.flat ∧ t.ok anyOp = true ∧ t.depth ≤ 40 ∧ l.length ≤ 2048 := by
  obtain ⟨k, h⟩ := Ev.rounds h
  rw [tree_Check.f] at h
  split at h
  · simp at h
  rename_i hl
  obtain ⟨⟨m, wr, dq⟩, hw, h⟩ := Option.bind_eq_some_iff.1 h
  dsimp only at h
  have hn := (walk_neg k).1 _ _ _ _ _ _ _ hw
  split at h
  · simp at h
  have hwr : wr = -1 := by omega
  subst hwr
  split at h
  · simp at h
  split at h
  · simp at h
  obtain ⟨t, t1, t2, t3, t4, t5⟩ := (walk_says (show l.length ≤ 2048 by omega) k).1 0 1 _ _ _ _ (by omega) (by omega) (by omega) hw
  refine ⟨t, ?_, t1, ?_, by omega⟩
  · rw [List.drop_zero, List.drop_of_length_le (by omega), List.append_nil] at t2
    exact t2
  · unfold deepAs at t5
    have := T.depth_pos t
    omega
theorem tree_check {t : T} (h : t.ok anyOp = true) (hl : t.flat.length ≤ 2048) (hd : t.depth ≤ 40) : Ev (fun k => tree_Check.f k t.flat) (0, 0) := by
  obtain ⟨dq, d1, d2⟩ := T.walks hl t 0 1 anyOp (-1) [] h (by simp) (by omega) (by omega)
  unfold deepAs at d1
  refine Ev.congr (f := fun k => (tree_Check.walk t.flat k 0 1 anyOp (-1) (-1)).bind fun q => if 0 ≤ q.2.1 then some (q.2.1, 3) else if q.1 < (t.flat.length : Int) then some (q.1, 3) else if 0 ≤ q.2.2 then some (q.2.2, 2) else some (0, 0)) (fun k => ?_) (Ev.bind d2 (Ev.congr (f := fun _ => some _) (fun k => ?_) (Ev.now _)))
  · show tree_Check.f k _ = _
    rw [tree_Check.f, if_neg (by omega)]
    rfl
  · dsimp only
    rw [if_neg (by decide), if_neg (by omega), if_neg (by omega)]
end Go.Proofs.Ytlbchdalimngjaa.Tree
namespace Go.Proofs.Ytlbchdalimngjaa.Tree
open Go.RowKit Go.Proofs.YtlbchdalimngjaaW.PrintWords Go.Proofs.YtlbchdalimngjaaW.PrintLast Go.Proofs.YtlbchdalimngjaaW.PrintMore Go.Proofs.Ytlbchdalimngjaa.P Go.Proofs.Ytlbchdalimngjaa.Lex
set_option linter.unusedVariables false
set_option linter.unusedSimpArgs false
def Ts.list : Ts → List (List Tw)
  | .nil => []
  | .cons t ts => t.flat :: ts.list
mutual
theorem T.ends {l : List Tw} (hl : l.length ≤ 2048) : (t : T) → (a : Nat) → (o : Int) → (p : Int → Bool) → (s : List Tw) → (r : Int) → t.ok p = true → l.drop a = t.flat ++ s → 1 ≤ o → o ≤ 3000 * (a + 1) → Ev (fun k => tree_ends.l0 k l ((a + t.flat.length : Nat) : Int) (o - 1)) r → Ev (fun k => tree_ends.l0 k l (a : Int) o) r
  | .node x ks, a, o, p, s, r, hok, h, h1, ho, hr => by
    rw [T.flat, List.cons_append] at h
    obtain ⟨hx, hlt, hd⟩ := rd_tw h
    rw [T.ok] at hok
    simp only [Bool.and_eq_true] at hok
    obtain ⟨o1, o2, o3, o4⟩ := hok
    have o3 := of_decide_eq_true o3
    have hk := fine_kids o2
    have e : a + (T.node x ks).flat.length = a + 1 + ks.flat.length := by rw [T.flat, List.length_cons]; omega
    rw [e] at hr
    have := Ts.ends hl ks (a + 1) (o - 1) x 0 s r o4 hd (by omega) (by omega) hr
    refine Ev.step (fun k => ?_) this
    show tree_ends.l0 (k + 1) _ _ _ = _
    have w1 : wrap64 (o + wrap64 (x.f1 - 1)) = o - 1 + (ks.len : Int) := by unfold wrap64; omega
    rw [tree_ends.l0, if_pos (by omega), if_pos (by omega), if_pos (by omega), hx, w64 (by omega) (by omega), w1]
    rfl
theorem Ts.ends {l : List Tw} (hl : l.length ≤ 2048) : (ts : Ts) → (a : Nat) → (o : Int) → (x : Tw) → (i : Int) → (s : List Tw) → (r : Int) → ts.ok x i = true → l.drop a = ts.flat ++ s → 0 ≤ o → o + ts.len ≤ 3000 * (a + 1) → Ev (fun k => tree_ends.l0 k l ((a + ts.flat.length : Nat) : Int) o) r → Ev (fun k => tree_ends.l0 k l (a : Int) (o + (ts.len : Int))) r
  | .nil, a, o, x, i, s, r, hok, h, h0, ho, hr => by
    rw [Ts.len]
    have e : o + ((0 : Nat) : Int) = o := by omega
    rw [e]
    exact hr
  | .cons t ts, a, o, x, i, s, r, hok, h, h0, ho, hr => by
    rw [Ts.ok, Bool.and_eq_true] at hok
    rw [Ts.flat, List.append_assoc] at h
    rw [Ts.len] at ho ⊢
    obtain ⟨hd, _⟩ := drop_app h
    have tp := T.flat_pos t
    have e : a + (Ts.cons t ts).flat.length = a + t.flat.length + ts.flat.length := by rw [Ts.flat, List.length_append]; omega
    rw [e] at hr
    have h2 := Ts.ends hl ts (a + t.flat.length) o x (i + 1) s r hok.2 hd h0 (by omega) hr
    refine T.ends hl t a _ _ (ts.flat ++ s) r hok.1 h (by omega) (by omega) ?_
    have e2 : o + ((ts.len + 1 : Nat) : Int) - 1 = o + (ts.len : Int) := by omega
    rw [e2]
    exact h2
end
theorem ends_is {l : List Tw} (hl : l.length ≤ 2048) {t : T} {p : Int → Bool} {a : Nat} {s : List Tw} (hok : t.ok p = true) (h : l.drop a = t.flat ++ s) : Ev (fun k => tree_ends.f k l (a : Int)) ((a + t.flat.length : Nat) : Int) := by
  refine T.ends hl t a 1 p s _ hok h (by omega) (by omega) (Ev.step (f := fun _ => some _) (fun k => ?_) (Ev.now _))
  show tree_ends.l0 (k + 1) _ _ _ = _
  rw [tree_ends.l0, if_neg (by omega)]
theorem parts_go {l : List Tw} (hl : l.length ≤ 2048) : (ts : Ts) → (a : Nat) → (x : Tw) → (i : Int) → (out : List (List Tw)) → ts.ok x i = true → l.drop a = ts.flat → a ≤ l.length → out.length + ts.len ≤ 3000 → Ev (fun k => tree_Parts.l0 k l out (a : Int)) (out ++ ts.list, 0)
  | .nil, a, x, i, out, hok, h, ha, hn => by
    refine Ev.step (f := fun _ => some _) (fun k => ?_) (Ev.now _)
    have := List.drop_eq_nil_iff.1 (show l.drop a = [] from h)
    show tree_Parts.l0 (k + 1) _ _ _ = _
    rw [tree_Parts.l0, if_neg (by omega), Ts.list, List.append_nil]
  | .cons t ts, a, x, i, out, hok, h, ha, hn => by
    rw [Ts.ok, Bool.and_eq_true] at hok
    rw [Ts.flat] at h
    rw [Ts.len] at hn
    obtain ⟨hd, _⟩ := drop_app h
    have tp := T.flat_pos t
    have hlen := congrArg List.length h
    rw [List.length_drop, List.length_append] at hlen
    have he := ends_is hl hok.1 h
    have ih := parts_go hl ts (a + t.flat.length) x (i + 1) (out ++ [t.flat]) hok.2 hd (by omega) (by rw [List.length_append, List.length_singleton]; omega)
    have cut : (l.take (a + t.flat.length)).drop a = t.flat := by
      rw [List.drop_take, h]
      have : a + t.flat.length - a = t.flat.length := by omega
      rw [this, List.take_left]
    rw [Ts.list]
    have e : out ++ t.flat :: ts.list = out ++ [t.flat] ++ ts.list := by simp
    rw [e]
    refine Ev.step (f := fun k => (tree_ends.f k l (a : Int)).bind fun q => if 0 ≤ (a : Int) then (if (a : Int) ≤ q then (if q ≤ (l.length : Int) then ((some ((l.take q.toNat).drop (a : Int).toNat)).bind fun y => (if ([] : List Tw).length + y.length < 3518437208883 then (if out.length < 5864062014805 then (tree_Parts.l0 k l (out ++ [(([] : List Tw) ++ y)]) q) else (none)) else (none))) else (none)) else (none)) else (none)) (fun k => ?_) (Ev.bind he (Ev.congr (fun k => ?_) ih))
    · show tree_Parts.l0 (k + 1) _ _ _ = _
      rw [tree_Parts.l0, if_pos (by omega)]
    · rw [if_pos (by omega), if_pos (by omega), if_pos (by omega), Int.toNat_natCast, Int.toNat_natCast, cut]
      simp only [Option.bind_some, List.length_nil, List.nil_append]
      rw [if_pos (by omega), if_pos (by omega)]
theorem parts_is {x : Tw} {ks : Ts} (h : (T.node x ks).ok anyOp = true) (hl : (T.node x ks).flat.length ≤ 2048) (hd : (T.node x ks).depth ≤ 40) : Ev (fun k => tree_Parts.f k (T.node x ks).flat) (ks.list, 0) := by
  have hc := tree_check h hl hd
  rw [T.ok] at h
  simp only [Bool.and_eq_true] at h
  obtain ⟨o1, o2, o3, o4⟩ := h
  have hk := fine_kids o2
  have o3 := of_decide_eq_true o3
  refine Ev.bind (f := fun k q => if q.2 = 0 then tree_Parts.l0 k (T.node x ks).flat ([] : List (List Tw)) 1 else some (([] : List (List Tw)), q.2)) hc ?_
  refine Ev.congr (fun k => if_pos rfl) ?_
  have := parts_go hl ks 1 x 0 [] o4 rfl (by rw [T.flat, List.length_cons]; omega) (by simp only [List.length_nil]; omega)
  exact this
mutual
theorem T.same : (t u : T) → (p q : Int → Bool) → (a b : List Tw) → t.ok p = true → u.ok q = true → t.flat ++ a = u.flat ++ b → t = u ∧ a = b
  | .node x ks, .node y js, p, q, a, b, h1, h2, h => by
    rw [T.ok] at h1 h2
    simp only [Bool.and_eq_true] at h1 h2
    rw [T.flat, T.flat, List.cons_append, List.cons_append] at h
    injection h with e h
    subst e
    have k1 := of_decide_eq_true h1.2.2.1
    have k2 := of_decide_eq_true h2.2.2.1
    obtain ⟨e1, e2⟩ := Ts.same ks js x 0 a b (by omega) h1.2.2.2 h2.2.2.2 h
    exact ⟨by rw [e1], e2⟩
theorem Ts.same : (ts us : Ts) → (x : Tw) → (i : Int) → (a b : List Tw) → ts.len = us.len → ts.ok x i = true → us.ok x i = true → ts.flat ++ a = us.flat ++ b → ts = us ∧ a = b
  | .nil, .nil, x, i, a, b, hn, h1, h2, h => ⟨rfl, h⟩
  | .nil, .cons u us, x, i, a, b, hn, h1, h2, h => by rw [Ts.len, Ts.len] at hn; omega
  | .cons t ts, .nil, x, i, a, b, hn, h1, h2, h => by rw [Ts.len, Ts.len] at hn; omega
  | .cons t ts, .cons u us, x, i, a, b, hn, h1, h2, h => by
    rw [Ts.len, Ts.len] at hn
    rw [Ts.ok, Bool.and_eq_true] at h1 h2
    rw [Ts.flat, Ts.flat, List.append_assoc, List.append_assoc] at h
    obtain ⟨e1, e2⟩ := T.same t u _ _ _ _ h1.1 h2.1 h
    obtain ⟨e3, e4⟩ := Ts.same ts us x (i + 1) a b (by omega) h1.2 h2.2 e2
    exact ⟨by rw [e1, e3], e4⟩
end
theorem check_zero {l : List Tw} {c : Int × Int} (h : Ev (fun k => tree_Check.f k l) c) (h0 : c.2 = 0) : c = (0, 0) := by
  obtain ⟨k, h⟩ := Ev.rounds h
  rw [tree_Check.f] at h
  split at h
  · simp only [Option.some.injEq] at h
    subst h
    cases h0
  · obtain ⟨q, _, h⟩ := Option.bind_eq_some_iff.1 h
    repeat' split at h
    all_goals
      simp only [Option.some.injEq] at h
      subst h
      first | rfl | cases h0
end Go.Proofs.Ytlbchdalimngjaa.Tree
namespace Go.Proofs.Ytlbchdalimngjaa.Tree
open Go.RowKit Go.Proofs.YtlbchdalimngjaaW.PrintWords Go.Proofs.YtlbchdalimngjaaW.PrintLast Go.Proofs.Ytlbchdalimngjaa.P Go.Proofs.Ytlbchdalimngjaa.Lex
set_option linter.unusedVariables false
set_option linter.unusedSimpArgs false
def tot : List (List S43) → Nat
  | [] => 0
  | p :: ps => p.length + tot ps
theorem rd_part {l : List (List S43)} {j : Nat} {p : List S43} {ps : List (List S43)} (h : l.drop j = p :: ps) : rd_L6 l (j : Int) = p ∧ j < l.length ∧ l.drop (j + 1) = ps := by
  have hlt : j < l.length := by
    rcases Nat.lt_or_ge j l.length with h1 | h1
    · exact h1
    · rw [List.drop_eq_nil_of_le h1] at h; cases h
  rw [List.drop_eq_getElem_cons hlt] at h
  injection h with h1 h2
  refine ⟨?_, hlt, h2⟩
  unfold rd_L6
  rw [List.getD_eq_getElem?_getD, Int.toNat_natCast, List.getElem?_eq_getElem hlt, h1]
  rfl
theorem parts_end {l : List (List S43)} {j : Nat} (h : l.drop j = []) : ¬ (j : Int) < (l.length : Int) := by
  have := List.drop_eq_nil_iff.1 h
  omega
theorem check_some {l : List S43} {r : Int × Int} (h : Ev (fun k => tree_Check.f k l) r) (h0 : r.2 = 0) : 1 ≤ l.length := by
  cases l with
  | cons x l => simp
  | nil =>
    have e : tree_Check.f 5 ([] : List S43) = some (0, 3) := by rfl
    have e2 := Ev.of (tree_Check.mono ([] : List S43)) e
    obtain ⟨n, hn⟩ := h
    obtain ⟨m, hm⟩ := e2
    have a := hn (max n m) (by omega)
    have b := hm (max n m) (by omega)
    rw [a] at b
    have := Option.some.inj b
    rw [this] at h0
    cases h0
section
variable (f0 f1 f2 : Int) (f3 : ByteArray) (l1 : List (List S43))
def mkEnd (x6 : Int) (k : Nat) : Option (List S43 × Int) := if x6 > 2048 then some ([], 2) else tree_Make.l1 k [⟨f0, (l1.length : Int), f2, f3⟩] l1 (l1.length : Int) 0
def rfEnd (k : Nat) : Option (List S43 × Int) := if (l1.length : Int) > 2048 then some ([], 2) else prompterref08_Make.l1 k l1 [⟨f0, (l1.length : Int), f2, f3⟩] 0
theorem make_checks (hl : l1.length ≤ 6000) : ∀ (ps : List (List S43)) (j : Nat) (x6 : Int), l1.drop j = ps → tot ps ≤ 6000 → 1 ≤ x6 → x6 ≤ 9000 →
    (∃ r, Ev (fun k => tree_Make.l0 k l1 x6 l1 (l1.length : Int) (j : Int) f0 f1 f2 f3) r ∧ Ev (fun k => prompterref08_Make.l0 k l1 (j : Int) f0 f1 f2 f3) r ∧ r.1 = []) ∨
    (∃ y6 : Int, (∀ r, Ev (mkEnd f0 f2 f3 l1 y6) r → Ev (fun k => tree_Make.l0 k l1 x6 l1 (l1.length : Int) (j : Int) f0 f1 f2 f3) r) ∧ (∀ r, Ev (rfEnd f0 f2 f3 l1) r → Ev (fun k => prompterref08_Make.l0 k l1 (j : Int) f0 f1 f2 f3) r) ∧ (y6 > 2048 ↔ x6 + tot ps > 2048) ∧ ps.length ≤ tot ps)
  | [], j, x6, h, ht, h1, h9 => by
    have he := parts_end h
    refine .inr ⟨x6, fun r hr => Ev.step (fun k => ?_) hr, fun r hr => Ev.step (fun k => ?_) hr, by simp [tot], by simp⟩
    · show tree_Make.l0 (k + 1) _ _ _ _ _ _ _ _ _ = _
      rw [tree_Make.l0, if_neg he]
      rfl
    · show prompterref08_Make.l0 (k + 1) _ _ _ _ _ _ = _
      rw [prompterref08_Make.l0, if_neg he]
      rfl
  | p :: ps, j, x6, h, ht, h1, h9 => by
    obtain ⟨hr, hlt, hd⟩ := rd_part h
    have htp : tot (p :: ps) = p.length + tot ps := rfl
    obtain ⟨c, c1, c2⟩ := check_both p
    have wj : wrap64 ((j : Int) + 1) = ((j + 1 : Nat) : Int) := w64 (by omega) (by omega)
    by_cases h0 : c.2 = 0
    · have hp := check_some c1 h0
      obtain ⟨y, hy⟩ : ∃ y : Int, y = if x6 ≤ 2048 then x6 + (p.length : Int) else x6 := ⟨_, rfl⟩
      have hy1 : 1 ≤ y ∧ y ≤ 9000 ∧ (y + tot ps > 2048 ↔ x6 + tot (p :: ps) > 2048) := by
        rw [hy]
        split <;> omega
      have ws : x6 ≤ 2048 → wrap64 (x6 + (p.length : Int)) = x6 + (p.length : Int) := fun hx => w64b (by omega) (by omega)
      have t : ∀ r, Ev (fun k => tree_Make.l0 k l1 y l1 (l1.length : Int) ((j + 1 : Nat) : Int) f0 f1 f2 f3) r → Ev (fun k => tree_Make.l0 k l1 x6 l1 (l1.length : Int) (j : Int) f0 f1 f2 f3) r := by
        intro r hr2
        refine Ev.step (f := fun k => (tree_Check.f k p).bind fun q => if q.2 = 0 then (if x6 ≤ 2048 then tree_Make.l0 k l1 (wrap64 (x6 + (p.length : Int))) l1 (l1.length : Int) ((j + 1 : Nat) : Int) f0 f1 f2 f3 else tree_Make.l0 k l1 x6 l1 (l1.length : Int) ((j + 1 : Nat) : Int) f0 f1 f2 f3) else some ([], q.2)) (fun k => ?_) (Ev.bind c1 ?_)
        · show tree_Make.l0 (k + 1) _ _ _ _ _ _ _ _ _ = _
          rw [tree_Make.l0, if_pos (by omega), if_pos (by omega), if_pos (by omega), hr, wj]
        · refine Ev.congr (fun k => (if_pos h0).trans ?_) hr2
          rw [hy]
          by_cases hx : x6 ≤ 2048
          · rw [if_pos hx, if_pos hx, ws hx]
          · rw [if_neg hx, if_neg hx]
      have rf : ∀ r, Ev (fun k => prompterref08_Make.l0 k l1 ((j + 1 : Nat) : Int) f0 f1 f2 f3) r → Ev (fun k => prompterref08_Make.l0 k l1 (j : Int) f0 f1 f2 f3) r := by
        intro r hr2
        refine Ev.step (f := fun k => (prompterref08_Check.f k p).bind fun q => if q.2 = 0 then prompterref08_Make.l0 k l1 ((j + 1 : Nat) : Int) f0 f1 f2 f3 else some ([], q.2)) (fun k => ?_) (Ev.bind c2 (Ev.congr (fun k => if_pos h0) hr2))
        show prompterref08_Make.l0 (k + 1) _ _ _ _ _ _ = _
        rw [prompterref08_Make.l0, if_pos (by omega), if_pos (by omega), hr, wj]
      rcases make_checks hl ps (j + 1) y hd (by omega) hy1.1 hy1.2.1 with ⟨r, r1, r2, r3⟩ | ⟨y6, r1, r2, r3, r4⟩
      · exact .inl ⟨r, t r r1, rf r r2, r3⟩
      · exact .inr ⟨y6, fun r hr2 => t r (r1 r hr2), fun r hr2 => rf r (r2 r hr2), r3.trans hy1.2.2, by rw [List.length_cons]; omega⟩
    · refine .inl ⟨([], c.2), ?_, ?_, rfl⟩
      · refine Ev.step (f := fun k => (tree_Check.f k p).bind fun q => if q.2 = 0 then (if x6 ≤ 2048 then tree_Make.l0 k l1 (wrap64 (x6 + (p.length : Int))) l1 (l1.length : Int) ((j + 1 : Nat) : Int) f0 f1 f2 f3 else tree_Make.l0 k l1 x6 l1 (l1.length : Int) ((j + 1 : Nat) : Int) f0 f1 f2 f3) else some ([], q.2)) (fun k => ?_) (Ev.bind c1 (Ev.congr (fun k => if_neg h0) (Ev.now _)))
        show tree_Make.l0 (k + 1) _ _ _ _ _ _ _ _ _ = _
        rw [tree_Make.l0, if_pos (by omega), if_pos (by omega), if_pos (by omega), hr, wj]
      · refine Ev.step (f := fun k => (prompterref08_Check.f k p).bind fun q => if q.2 = 0 then prompterref08_Make.l0 k l1 ((j + 1 : Nat) : Int) f0 f1 f2 f3 else some ([], q.2)) (fun k => ?_) (Ev.bind c2 (Ev.congr (fun k => if_neg h0) (Ev.now _)))
        show prompterref08_Make.l0 (k + 1) _ _ _ _ _ _ = _
        rw [prompterref08_Make.l0, if_pos (by omega), if_pos (by omega), hr, wj]
theorem make_join (hl : l1.length ≤ 6000) (r : List S43 × Int) : ∀ (ps : List (List S43)) (j : Nat) (x : List S43), l1.drop j = ps → x.length + tot ps ≤ 9000 →
    Ev (fun k => (tree_Check.f k (x ++ ps.flatten)).bind fun q => if q.2 = 0 then some (x ++ ps.flatten, 0) else some ([], q.2)) r → Ev (fun k => tree_Make.l1 k x l1 (l1.length : Int) (j : Int)) r
  | [], j, x, h, ht, hr => by
    rw [List.flatten_nil, List.append_nil] at hr
    refine Ev.step (fun k => ?_) hr
    show tree_Make.l1 (k + 1) _ _ _ _ = _
    rw [tree_Make.l1, if_neg (parts_end h)]
  | p :: ps, j, x, h, ht, hr => by
    obtain ⟨hr1, hlt, hd⟩ := rd_part h
    have htp : tot (p :: ps) = p.length + tot ps := rfl
    have wj : wrap64 ((j : Int) + 1) = ((j + 1 : Nat) : Int) := w64 (by omega) (by omega)
    rw [List.flatten_cons, ← List.append_assoc] at hr
    refine Ev.step (fun k => ?_) (make_join hl r ps (j + 1) (x ++ p) hd (by rw [List.length_append]; omega) hr)
    show tree_Make.l1 (k + 1) _ _ _ _ = _
    rw [tree_Make.l1, if_pos (by omega), if_pos (by omega), if_pos (by omega), hr1, if_pos (by omega), wj]
theorem ref_join (hl : l1.length ≤ 6000) (r : List S43 × Int) : ∀ (ps : List (List S43)) (j : Nat) (x : List S43), l1.drop j = ps → x.length ≤ 2048 → tot ps ≤ 6000 →
    Ev (fun k => if ((x.length + tot ps : Nat) : Int) > 2048 then some ([], 2) else (prompterref08_Check.f k (x ++ ps.flatten)).bind fun q => if q.2 = 0 then some (x ++ ps.flatten, 0) else some ([], q.2)) r → Ev (fun k => prompterref08_Make.l1 k l1 x (j : Int)) r
  | [], j, x, h, hx, ht, hr => by
    rw [List.flatten_nil, List.append_nil] at hr
    have e : ¬ ((x.length + tot [] : Nat) : Int) > 2048 := by simp only [tot]; omega
    refine Ev.step (fun k => ?_) (Ev.congr (fun k => (if_neg e).symm) hr)
    show prompterref08_Make.l1 (k + 1) _ _ _ = _
    rw [prompterref08_Make.l1, if_neg (parts_end h)]
  | p :: ps, j, x, h, hx, ht, hr => by
    obtain ⟨hr1, hlt, hd⟩ := rd_part h
    have htp : tot (p :: ps) = p.length + tot ps := rfl
    have wj : wrap64 ((j : Int) + 1) = ((j + 1 : Nat) : Int) := w64 (by omega) (by omega)
    rw [List.flatten_cons, ← List.append_assoc] at hr
    by_cases hb : x.length + p.length > 2048
    · have e : ((x.length + tot (p :: ps) : Nat) : Int) > 2048 := by omega
      refine Ev.step (fun k => ?_) (Ev.congr (fun k => (if_pos e).symm) hr)
      show prompterref08_Make.l1 (k + 1) _ _ _ = _
      rw [prompterref08_Make.l1, if_pos (by omega), if_pos (by omega), hr1, if_pos (by omega)]
      simp only [Option.bind_some]
      rw [if_pos (by rw [List.length_append]; omega)]
    · have e2 : ((x ++ p).length + tot ps : Nat) = x.length + tot (p :: ps) := by rw [List.length_append]; omega
      refine Ev.step (fun k => ?_) (ref_join hl r ps (j + 1) (x ++ p) hd (by rw [List.length_append]; omega) (by omega) (by rw [e2]; exact hr))
      show prompterref08_Make.l1 (k + 1) _ _ _ = _
      rw [prompterref08_Make.l1, if_pos (by omega), if_pos (by omega), hr1, if_pos (by omega)]
      simp only [Option.bind_some]
      rw [if_neg (by rw [List.length_append]; omega), wj]
theorem flat_len : ∀ l : List (List S43), l.flatten.length = tot l
  | [] => rfl
  | p :: ps => by rw [List.flatten_cons, List.length_append, flat_len ps]; rfl
theorem make_both (hl : l1.length ≤ 6000) (ht : tot l1 ≤ 6000) : ∃ r, Ev (fun k => tree_Make.f k f0 f1 f2 f3 l1) r ∧ Ev (fun k => prompterref08_Make.f k f0 f1 f2 f3 l1) r ∧ (r.1 = [] ∨ (r.2 = 0 ∧ r.1 = [⟨f0, (l1.length : Int), f2, f3⟩] ++ l1.flatten)) := by
  rcases make_checks f0 f1 f2 f3 l1 hl l1 0 1 rfl ht (by omega) (by omega) with ⟨r, r1, r2, r3⟩ | ⟨y6, r1, r2, r3, r4⟩
  · exact ⟨r, r1, r2, .inl r3⟩
  by_cases hbig : y6 > 2048
  · have hsum := r3.1 hbig
    refine ⟨([], 2), r1 _ (Ev.congr (f := fun _ => some _) (fun k => by unfold mkEnd; rw [if_pos hbig]) (Ev.now _)), r2 _ ?_, .inl rfl⟩
    by_cases hn : (l1.length : Int) > 2048
    · exact Ev.congr (f := fun _ => some _) (fun k => by unfold rfEnd; rw [if_pos hn]) (Ev.now _)
    · refine Ev.congr (f := fun k => prompterref08_Make.l1 k l1 [⟨f0, (l1.length : Int), f2, f3⟩] 0) (fun k => by unfold rfEnd; rw [if_neg hn]) ?_
      refine ref_join l1 hl _ l1 0 _ rfl (by simp) ht (Ev.congr (f := fun _ => some _) (fun k => if_pos (by simp only [List.length_singleton]; omega)) (Ev.now _))
  · have hsum : ¬ (1 : Int) + tot l1 > 2048 := fun x => hbig (r3.2 x)
    obtain ⟨c, c1, c2⟩ := check_both ([⟨f0, (l1.length : Int), f2, f3⟩] ++ l1.flatten)
    have hn : ¬ (l1.length : Int) > 2048 := by omega
    have fin : ∀ (g : Nat → List S43 → Option (Int × Int)), Ev (fun k => g k ([⟨f0, (l1.length : Int), f2, f3⟩] ++ l1.flatten)) c → Ev (fun k => (g k ([⟨f0, (l1.length : Int), f2, f3⟩] ++ l1.flatten)).bind fun q => if q.2 = 0 then some ([(⟨f0, (l1.length : Int), f2, f3⟩ : S43)] ++ l1.flatten, (0 : Int)) else some ([], q.2)) (if c.2 = 0 then ([(⟨f0, (l1.length : Int), f2, f3⟩ : S43)] ++ l1.flatten, 0) else ([], c.2)) := by
      intro g hg
      refine Ev.bind hg (Ev.congr (f := fun _ => some _) (fun k => ?_) (Ev.now _))
      by_cases h0 : c.2 = 0
      · rw [if_pos h0, if_pos h0]
      · rw [if_neg h0, if_neg h0]
    refine ⟨if c.2 = 0 then ([(⟨f0, (l1.length : Int), f2, f3⟩ : S43)] ++ l1.flatten, 0) else ([], c.2), r1 _ (Ev.congr (f := fun k => tree_Make.l1 k [⟨f0, (l1.length : Int), f2, f3⟩] l1 (l1.length : Int) 0) (fun k => by unfold mkEnd; rw [if_neg hbig]) ?_), r2 _ (Ev.congr (f := fun k => prompterref08_Make.l1 k l1 [⟨f0, (l1.length : Int), f2, f3⟩] 0) (fun k => by unfold rfEnd; rw [if_neg hn]) ?_), ?_⟩
    · exact make_join l1 hl _ l1 0 _ rfl (by simp only [List.length_singleton]; omega) (fin tree_Check.f c1)
    · exact ref_join l1 hl _ l1 0 _ rfl (by simp) ht (Ev.congr (fun k => if_neg (by simp only [List.length_singleton]; omega)) (fin prompterref08_Check.f c2))
    · by_cases h0 : c.2 = 0
      · rw [if_pos h0]; exact .inr ⟨rfl, rfl⟩
      · rw [if_neg h0]; exact .inl rfl
end
end Go.Proofs.Ytlbchdalimngjaa.Tree
namespace Go.Proofs.Ytlbchdalimngjaa.Tree
open Go.RowKit Go.Proofs.YtlbchdalimngjaaW.PrintWords Go.Proofs.YtlbchdalimngjaaW.PrintLast Go.Proofs.YtlbchdalimngjaaW.PrintMore Go.Proofs.Ytlbchdalimngjaa.P Go.Proofs.Ytlbchdalimngjaa.Lex
set_option linter.unusedVariables false
set_option linter.unusedSimpArgs false
theorem treeWakes : Ev (fun k => prompterlaw08_wakes.f k) true := Ev.of prompterlaw08_wakes.mono (k := 60) (by kernel_rfl)
theorem alike_go8 (l : List Tw) (hl : l.length ≤ 900000) : ∀ (n i : Nat), i + n = l.length → Ev (fun k => prompterref08_Alike.l0 k l l (i : Int)) true
  | 0, i, h => Ev.step (f := fun _ => some true) (fun k => by
      show prompterref08_Alike.l0 (k + 1) l l (i : Int) = _
      rw [prompterref08_Alike.l0, if_neg (by omega)]) (Ev.now _)
  | n + 1, i, h => by
    refine Ev.step (fun k => ?_) (alike_go8 l hl n (i + 1) (by omega))
    show prompterref08_Alike.l0 (k + 1) l l (i : Int) = _
    rw [prompterref08_Alike.l0, if_pos (by omega), if_pos (by omega), if_pos (by omega), w64 (by omega) (by omega), if_neg (by simp)]
    rfl
theorem alike8 (l : List Tw) (hl : l.length ≤ 900000) : Ev (fun k => prompterref08_Alike.f k l l) true := by
  refine Ev.congr (fun k => ?_) (alike_go8 l hl l.length 0 (by omega))
  show prompterref08_Alike.f k l l = _
  rw [prompterref08_Alike.f, if_pos rfl]
  rfl
theorem list_drop {L : List (List Tw)} {j : Nat} {p : List Tw} {ps : List (List Tw)} (h : L.drop j = p :: ps) : rd_L6 L (j : Int) = p ∧ j < L.length ∧ L.drop (j + 1) = ps := rd_part h
theorem join_inv {L : List (List Tw)} (hL : L.length ≤ 6000) : ∀ (k : Nat) (x : List Tw) (j : Nat) (t : List Tw), j ≤ L.length → tree_Make.l1 k x L (L.length : Int) (j : Int) = some (t, 0) → t = x ++ (L.drop j).flatten ∧ Ev (fun k => tree_Check.f k t) (0, 0)
  | 0, x, j, t, hj, h => by simp [tree_Make.l1] at h
  | k + 1, x, j, t, hj, h => by
    rw [tree_Make.l1] at h
    split at h
    · rename_i hlt
      have hlt2 : j < L.length := by omega
      rw [if_pos (by omega)] at h
      split at h
      · obtain ⟨hr, _, hd⟩ := list_drop (List.drop_eq_getElem_cons hlt2)
        rw [w64 (by omega) (by omega)] at h
        obtain ⟨e1, e2⟩ := join_inv hL k _ (j + 1) t (by omega) h
        refine ⟨?_, e2⟩
        rw [e1, hr, List.drop_eq_getElem_cons hlt2, List.flatten_cons, List.append_assoc]
      · cases h
    · rename_i hge
      obtain ⟨q, hq, h⟩ := Option.bind_eq_some_iff.1 h
      split at h
      · rename_i h0
        simp only [Option.some.injEq, Prod.mk.injEq] at h
        obtain ⟨rfl, _⟩ := h
        have he := Ev.of (tree_Check.mono x) hq
        rw [check_zero he h0] at he
        rw [List.drop_of_length_le (by omega), List.flatten_nil, List.append_nil]
        exact ⟨rfl, he⟩
      · rename_i h0
        simp only [Option.some.injEq, Prod.mk.injEq] at h
        exact absurd h.2 h0
theorem make_inv {L : List (List Tw)} (hL : L.length ≤ 6000) (f0 f1 f2 : Int) (f3 : ByteArray) (t : List Tw) : ∀ (k : Nat) (x6 : Int) (j : Nat), j ≤ L.length → tree_Make.l0 k L x6 L (L.length : Int) (j : Int) f0 f1 f2 f3 = some (t, 0) →
    (∀ p ∈ L.drop j, Ev (fun k => tree_Check.f k p) (0, 0)) ∧ t = [⟨f0, (L.length : Int), f2, f3⟩] ++ L.flatten ∧ Ev (fun k => tree_Check.f k t) (0, 0)
  | 0, x6, j, hj, h => by simp [tree_Make.l0] at h
  | k + 1, x6, j, hj, h => by
    rw [tree_Make.l0] at h
    split at h
    · have hlt2 : j < L.length := by omega
      rw [if_pos (by omega)] at h
      obtain ⟨hr, _, hd⟩ := list_drop (List.drop_eq_getElem_cons hlt2)
      obtain ⟨q, hq, h⟩ := Option.bind_eq_some_iff.1 h
      split at h
      · rename_i h0
        have he := Ev.of (tree_Check.mono _) hq
        rw [check_zero he h0, hr] at he
        rw [w64 (by omega) (by omega)] at h
        have ih : ∃ y, tree_Make.l0 k L y L (L.length : Int) (((j + 1 : Nat) : Int)) f0 f1 f2 f3 = some (t, 0) := by
          split at h
          · exact ⟨_, h⟩
          · exact ⟨_, h⟩
        obtain ⟨y, h⟩ := ih
        obtain ⟨e1, e2⟩ := make_inv hL f0 f1 f2 f3 t k y (j + 1) (by omega) h
        refine ⟨fun p hp => ?_, e2⟩
        rw [List.drop_eq_getElem_cons hlt2] at hp
        rcases List.mem_cons.1 hp with rfl | hp
        · exact he
        · exact e1 p hp
      · rename_i h0
        simp only [Option.some.injEq, Prod.mk.injEq] at h
        exact absurd h.2 h0
    · split at h
      · simp at h
      · obtain ⟨e1, e2⟩ := join_inv hL k _ 0 t (by omega) h
        rw [List.drop_zero] at e1
        rw [List.drop_of_length_le (by omega)]
        exact ⟨by simp, e1, e2⟩
theorem forest : ∀ (L : List (List Tw)), (∀ p ∈ L, Ev (fun k => tree_Check.f k p) (0, 0)) → ∃ us : List T, us.map T.flat = L ∧ ∀ u ∈ us, u.ok anyOp = true
  | [], _ => ⟨[], rfl, by simp⟩
  | p :: L, h => by
    obtain ⟨us, h1, h2⟩ := forest L (fun q hq => h q (List.mem_cons_of_mem _ hq))
    obtain ⟨t, t1, t2, _⟩ := check_tree (h p List.mem_cons_self)
    exact ⟨t :: us, by rw [List.map_cons, h1, t1], fun u hu => by
      rcases List.mem_cons.1 hu with rfl | hu
      · exact t2
      · exact h2 u hu⟩
theorem forest_same : ∀ (us : List T) (ks : Ts) (x : Tw) (i : Int), (∀ u ∈ us, u.ok anyOp = true) → ks.ok x i = true → us.length = ks.len → (us.map T.flat).flatten = ks.flat → us.map T.flat = ks.list
  | [], .nil, x, i, h1, h2, hn, h => rfl
  | [], .cons t ts, x, i, h1, h2, hn, h => by rw [Ts.len, List.length_nil] at hn; omega
  | u :: us, .nil, x, i, h1, h2, hn, h => by rw [Ts.len, List.length_cons] at hn; omega
  | u :: us, .cons t ts, x, i, h1, h2, hn, h => by
    rw [Ts.ok, Bool.and_eq_true] at h2
    rw [Ts.len, List.length_cons] at hn
    rw [List.map_cons, List.flatten_cons, Ts.flat] at h
    obtain ⟨e1, e2⟩ := T.same u t _ _ _ _ (h1 u List.mem_cons_self) h2.1 h
    rw [List.map_cons, Ts.list, e1, forest_same us ts x (i + 1) (fun v hv => h1 v (List.mem_cons_of_mem _ hv)) h2.2 (by omega) e2]
theorem many_go2 (l1 : List (List Tw)) (hs : ∀ p ∈ l1, p.length ≤ 3518437208780) : ∀ (ps : List (List Tw)) (j n : Nat), l1.drop j = ps → j ≤ 3001 → n ≤ 3518437300000 →
    ∃ b, Ev (fun k => prompterlaw08_Many.l0 k l1 (n : Int) (j : Int)) b ∧ (b = false → n + tot ps ≤ 6000 ∧ j + ps.length ≤ 3001)
  | [], j, n, h, hj, hn => by
    refine ⟨decide ((n : Int) > 6000), Ev.step (f := fun _ => some _) (fun k => ?_) (Ev.now _), fun hb => ?_⟩
    · show prompterlaw08_Many.l0 (k + 1) _ _ _ = _
      rw [prompterlaw08_Many.l0, if_neg (parts_end h)]
    · have := of_decide_eq_false hb
      simp only [tot, List.length_nil]
      omega
  | p :: ps, j, n, h, hj, hn => by
    obtain ⟨hr, hlt, hd⟩ := rd_part h
    have hp := hs p (List.mem_of_mem_drop (by rw [h]; exact List.mem_cons_self))
    by_cases h6 : (n : Int) > 6000
    · refine ⟨true, Ev.step (f := fun _ => some _) (fun k => ?_) (Ev.now _), fun hb => by cases hb⟩
      show prompterlaw08_Many.l0 (k + 1) _ _ _ = _
      rw [prompterlaw08_Many.l0, if_pos (by omega), if_pos h6]
    by_cases h3 : (j : Int) > 3000
    · refine ⟨true, Ev.step (f := fun _ => some _) (fun k => ?_) (Ev.now _), fun hb => by cases hb⟩
      show prompterlaw08_Many.l0 (k + 1) _ _ _ = _
      rw [prompterlaw08_Many.l0, if_pos (by omega), if_neg h6, if_pos h3]
    obtain ⟨b, hb, hf⟩ := many_go2 l1 hs ps (j + 1) (n + p.length) hd (by omega) (by omega)
    refine ⟨b, Ev.step (fun k => ?_) hb, fun hx => ?_⟩
    · show prompterlaw08_Many.l0 (k + 1) _ _ _ = _
      have e1 : wrap64 ((n : Int) + (p.length : Int)) = ((n + p.length : Nat) : Int) := by unfold wrap64; omega
      have e2 : wrap64 ((j : Int) + 1) = ((j + 1 : Nat) : Int) := by unfold wrap64; omega
      rw [prompterlaw08_Many.l0, if_pos (by omega), if_neg h6, if_neg h3, if_pos (by omega), hr, e1, e2]
    · have := hf hx
      simp only [tot, List.length_cons]
      omega
end Go.Proofs.Ytlbchdalimngjaa.Tree
namespace Go.Proofs.Ytlbchdalimngjaa.Pure
open Go.RowKit Go.Proofs.Ytlbchdalimngjaa.P Go.Proofs.YtlbchdalimngjaaW.PrintWords Go.Proofs.YtlbchdalimngjaaW.PrintLast Go.Proofs.YtlbchdalimngjaaW.PrintMore Go.Proofs.Ytlbchdalimngjaa.Lex Go.Proofs.Ytlbchdalimngjaa.Tree
set_option linter.unusedVariables false
set_option linter.unusedSimpArgs false
theorem made_go (L : List (List Tw)) (hL : L.length ≤ 6000) (ht : tot L ≤ 6000) : ∀ (ps : List (List Tw)) (j : Nat), L.drop j = ps → Ev (fun k => prompterlaw08_TreeMade.l0 k L L (j : Int)) true
  | [], j, h => by
    refine Ev.step (f := fun k => (prompterlaw08_wakes.f k).bind fun u => some u) (fun k => ?_) (Ev.bind treeWakes (Ev.now _))
    show prompterlaw08_TreeMade.l0 (k + 1) _ _ _ = _
    rw [prompterlaw08_TreeMade.l0, if_neg (parts_end h)]
  | p :: ps, j, h => by
    obtain ⟨hr, hlt, hd⟩ := list_drop h
    have hp : p.length ≤ tot L := by
      rw [← flat_len]
      exact (List.sublist_flatten_of_mem (List.mem_of_mem_drop (by rw [h]; exact List.mem_cons_self))).length_le
    refine Ev.step (f := fun k => (prompterref08_Alike.f k p p).bind fun t => if t = true then prompterlaw08_TreeMade.l0 k L L ((j + 1 : Nat) : Int) else some false) (fun k => ?_) (Ev.bind (alike8 p (by omega)) (Ev.congr (fun k => if_pos rfl) (made_go L hL ht ps (j + 1) hd)))
    show prompterlaw08_TreeMade.l0 (k + 1) _ _ _ = _
    rw [prompterlaw08_TreeMade.l0, if_pos (by omega), if_pos (by omega), if_pos (by omega), hr, w64 (by omega) (by omega)]
    rfl
theorem TreeMade (f0 f1 f2 : Int) (f3 : ByteArray) (L : List (List Tw)) (hs : ∀ p ∈ L, p.length ≤ 3518437208780) : ∃ k, prompterlaw08_TreeMade.f k f0 f1 f2 f3 L = some true := by
  refine Ev.rounds ?_
  obtain ⟨b, hb, hf⟩ := many_go2 L hs L 0 0 rfl (by omega) (by omega)
  refine Ev.bind hb ?_
  cases b with
  | true => exact Ev.congr (fun k => if_pos rfl) (Ev.bind treeWakes (Ev.now _))
  | false =>
    refine Ev.congr (fun k => if_neg (by decide)) ?_
    have hn := hf rfl
    obtain ⟨r, r1, _, r3⟩ := make_both f0 f1 f2 f3 L (by omega) (by omega)
    by_cases h0 : r.2 = 0
    · obtain ⟨t, e⟩ := r
      dsimp only at h0
      subst h0
      obtain ⟨k, hk⟩ := Ev.rounds r1
      obtain ⟨i1, i2, i3⟩ := make_inv (show L.length ≤ 6000 by omega) f0 f1 f2 f3 t k 1 0 (by omega) hk
      rw [List.drop_zero] at i1
      obtain ⟨u, u1, u2, u3, u4⟩ := check_tree i3
      cases u with
      | node x ks =>
      rw [u1, T.flat, List.singleton_append] at i2
      injection i2 with ex ef
      obtain ⟨us, v1, v2⟩ := forest L i1
      have u2' := u2
      rw [T.ok] at u2'
      simp only [Bool.and_eq_true] at u2'
      have o3 := of_decide_eq_true u2'.2.2.1
      have hx1 : x.f1 = (L.length : Int) := by rw [ex]
      have hlist : L = ks.list := by
        rw [← v1]
        refine forest_same us ks x 0 v2 u2'.2.2.2 ?_ ?_
        · have := congrArg List.length v1
          rw [List.length_map] at this
          omega
        · rw [v1, ← ef]
      have hp := parts_is u2 (by rw [← u1]; exact u4) u3
      rw [← hlist, ← u1] at hp
      have hrd : rd_T43 t 0 = x := by rw [u1, T.flat]; rfl
      have htp : 0 < (t.length : Int) := by rw [u1]; have := T.flat_pos (T.node x ks); omega
      refine Ev.bind (f := fun k q => (if q.2 = 0 then ((tree_Parts.f k q.1).bind fun p => (if p.2 = 0 then (if (p.1.length : Int) = (L.length : Int) then (if 0 < (q.1.length : Int) then (if ((rd_T43 q.1 0).f0) = f0 then (if ((rd_T43 q.1 0).f3).toList = f3.toList then (prompterlaw08_TreeMade.j0 k L p.1 (((rd_T43 q.1 0).f2) != f2)) else (prompterlaw08_TreeMade.j0 k L p.1 true)) else (prompterlaw08_TreeMade.j0 k L p.1 true)) else (none)) else (prompterlaw08_TreeMade.j0 k L p.1 true)) else (prompterlaw08_TreeMade.j0 k L p.1 true))) else (if (q.1.length : Int) = 0 then ((prompterlaw08_wakes.f k).bind fun u => (some u)) else (some false)))) r1
        (Ev.congr (fun k => if_pos rfl) (Ev.bind hp (Ev.congr (fun k => (if_pos rfl).trans ((if_pos rfl).trans ((if_pos htp).trans ((if_pos (by rw [hrd, ex])).trans (if_pos (by rw [hrd, ex])))))) ?_)))
      refine Ev.step (fun k => ?_) (made_go L (by omega) (by omega) L 0 rfl)
      show prompterlaw08_TreeMade.j0 (k + 1) _ _ _ = _
      rw [prompterlaw08_TreeMade.j0, hrd, ex, if_neg (by simp)]
      rfl
    · have hnil : r.1 = [] := by
        rcases r3 with h | ⟨h, _⟩
        · exact h
        · exact absurd h h0
      exact Ev.bind (f := fun k q => (if q.2 = 0 then ((tree_Parts.f k q.1).bind fun p => (if p.2 = 0 then (if (p.1.length : Int) = (L.length : Int) then (if 0 < (q.1.length : Int) then (if ((rd_T43 q.1 0).f0) = f0 then (if ((rd_T43 q.1 0).f3).toList = f3.toList then (prompterlaw08_TreeMade.j0 k L p.1 (((rd_T43 q.1 0).f2) != f2)) else (prompterlaw08_TreeMade.j0 k L p.1 true)) else (prompterlaw08_TreeMade.j0 k L p.1 true)) else (none)) else (prompterlaw08_TreeMade.j0 k L p.1 true)) else (prompterlaw08_TreeMade.j0 k L p.1 true))) else (if (q.1.length : Int) = 0 then ((prompterlaw08_wakes.f k).bind fun u => (some u)) else (some false)))) r1
        (Ev.congr (fun k => (if_neg h0).trans (if_pos (by rw [hnil]; rfl))) (Ev.bind treeWakes (Ev.now _)))
end Go.Proofs.Ytlbchdalimngjaa.Pure
