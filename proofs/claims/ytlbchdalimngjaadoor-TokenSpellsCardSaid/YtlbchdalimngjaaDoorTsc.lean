/- Parts of a proof, joined by a program: the statement TokenSpells holds (the tied card): what token.Spell answers is what the document's own spelling answers -/
import Derived.WalkMore
import Derived.ScopeJumps
import Derived.Test.YtlbchdalimngjaaDoorTsb
namespace Go.Proofs.YtlbchdalimngjaaDoor.P
open Go.RowKit Go.Proofs.YtlbchdalimngjaaDoorW.PrintWords Go.Proofs.YtlbchdalimngjaaDoorW.PrintLast Go.Proofs.YtlbchdalimngjaaDoorW.PrintMore
attribute [local go_sem] max2_int min2_int max_two min_two max_three min_three max_four min_four
set_option linter.unusedVariables false
set_option linter.unusedSimpArgs false
mutual
def token_text.l0 : Nat → ByteArray → Int → List Int → Int → Option (ByteArray × Int × Int × Int)
  | 0, _, _, _, _ => none
  | k + 1, x0, x1, x8, x9 => if x9 < (x0.size : Int) then (if 0 ≤ x9 then (token_text.j1 k x0 x1 x8 x9 ((bt x0 x9) != 34)) else (none)) else (token_text.j1 k x0 x1 x8 x9 false)
def token_text.j1 : Nat → ByteArray → Int → List Int → Int → Bool → Option (ByteArray × Int × Int × Int)
  | 0, _, _, _, _, _ => none
  | k + 1, x0, x1, x8, x9, x24 => if x24 = true then (if 0 ≤ x9 then (if x9 < (x0.size : Int) then (if (bt x0 x9) < 32 then (token_text.j2 k x0 x1 x8 x9 (bt x0 x9) true) else (token_text.j2 k x0 x1 x8 x9 (bt x0 x9) (decide ((bt x0 x9) > 126)))) else (none)) else (none)) else (if x9 ≥ (x0.size : Int) then (some ((⟨#[]⟩ : ByteArray), 0, (x0.size : Int), 4)) else (some (strOfNums x8, wrap64 (x9 + 1), 0, 0)))
def token_text.j2 : Nat → ByteArray → Int → List Int → Int → Int → Bool → Option (ByteArray × Int × Int × Int)
  | 0, _, _, _, _, _, _ => none
  | k + 1, x0, x1, x8, x9, x10, x33 => if x33 = true then (some ((⟨#[]⟩ : ByteArray), 0, x9, 9)) else (if x10 = 92 then (if (wrap64 (x9 + 1)) = (x0.size : Int) then (if (wrap64 (x9 + 1)) ≥ (x0.size : Int) then (some ((⟨#[]⟩ : ByteArray), 0, (x0.size : Int), 4)) else (some (strOfNums x8, wrap64 ((wrap64 (x9 + 1)) + 1), 0, 0))) else (if 0 ≤ (wrap64 (x9 + 1)) then (if (wrap64 (x9 + 1)) < (x0.size : Int) then (if (bt x0 (wrap64 (x9 + 1))) = 34 then (token_text.j3 k x0 x1 x8 (wrap64 (x9 + 1)) (bt x0 (wrap64 (x9 + 1))) ((bt x0 (wrap64 (x9 + 1))) == 34)) else (token_text.j3 k x0 x1 x8 (wrap64 (x9 + 1)) (bt x0 (wrap64 (x9 + 1))) ((bt x0 (wrap64 (x9 + 1))) == 92))) else (none)) else (none))) else (if (x8.length : Int) = 4095 then (some ((⟨#[]⟩ : ByteArray), 0, x1, 2)) else (if x8.length < 140737488355328 then (token_text.l0 k x0 x1 (x8 ++ [x10]) (wrap64 (x9 + 1))) else (none))))
def token_text.j3 : Nat → ByteArray → Int → List Int → Int → Int → Bool → Option (ByteArray × Int × Int × Int)
  | 0, _, _, _, _, _, _ => none
  | k + 1, x0, x1, x8, x9, x45, x47 => if x47 = true then (if 0 ≤ x9 then (if x9 < (x0.size : Int) then (if (x8.length : Int) = 4095 then (some ((⟨#[]⟩ : ByteArray), 0, x1, 2)) else (if x8.length < 140737488355328 then (token_text.l0 k x0 x1 (x8 ++ [bt x0 x9]) (wrap64 (x9 + 1))) else (none))) else (none)) else (none)) else (if x45 = 110 then (if (x8.length : Int) = 4095 then (some ((⟨#[]⟩ : ByteArray), 0, x1, 2)) else (if x8.length < 140737488355328 then (token_text.l0 k x0 x1 (x8 ++ [10]) (wrap64 (x9 + 1))) else (none))) else (if x45 = 120 then (token_text.l1 k x0 x1 x8 x9 0 0) else (some ((⟨#[]⟩ : ByteArray), 0, x9, 9))))
def token_text.l1 : Nat → ByteArray → Int → List Int → Int → Int → Int → Option (ByteArray × Int × Int × Int)
  | 0, _, _, _, _, _, _ => none
  | k + 1, x0, x1, x8, x9, x11, x57 => if x57 < 2 then (if (wrap64 (x9 + 1)) = (x0.size : Int) then (some ((⟨#[]⟩ : ByteArray), 0, wrap64 (x9 + 1), 4)) else (if 0 ≤ (wrap64 (x9 + 1)) then (if (wrap64 (x9 + 1)) < (x0.size : Int) then ((strings_IndexByte.f (⟨#[48, 49, 50, 51, 52, 53, 54, 55, 56, 57, 97, 98, 99, 100, 101, 102]⟩ : ByteArray) (bt x0 (wrap64 (x9 + 1)))).bind fun t114 => (if t114 < 0 then (some ((⟨#[]⟩ : ByteArray), 0, wrap64 (x9 + 1), 9)) else (token_text.l1 k x0 x1 x8 (wrap64 (x9 + 1)) (wrap64 ((wrap64 (16 * x11)) + t114)) (wrap64 (x57 + 1))))) else (none)) else (none))) else (if (x8.length : Int) = 4095 then (some ((⟨#[]⟩ : ByteArray), 0, x1, 2)) else (if x8.length < 140737488355328 then (token_text.l0 k x0 x1 (x8 ++ [(x11) % 256]) (wrap64 (x9 + 1))) else (none)))
end
def token_text.f (k : Nat) (a0 : ByteArray) (a1 : Int) : Option (ByteArray × Int × Int × Int) := token_text.l0 k a0 a1 ([] : List Int) (wrap64 (a1 + 1))
theorem token_text.mono_l : ∀ k, (∀ y0 y1 y2 y3, LeO (token_text.l0 k y0 y1 y2 y3) (token_text.l0 (k + 1) y0 y1 y2 y3)) ∧ (∀ y0 y1 y2 y3 y4, LeO (token_text.j1 k y0 y1 y2 y3 y4) (token_text.j1 (k + 1) y0 y1 y2 y3 y4)) ∧ (∀ y0 y1 y2 y3 y4 y5, LeO (token_text.j2 k y0 y1 y2 y3 y4 y5) (token_text.j2 (k + 1) y0 y1 y2 y3 y4 y5)) ∧ (∀ y0 y1 y2 y3 y4 y5, LeO (token_text.j3 k y0 y1 y2 y3 y4 y5) (token_text.j3 (k + 1) y0 y1 y2 y3 y4 y5)) ∧ (∀ y0 y1 y2 y3 y4 y5, LeO (token_text.l1 k y0 y1 y2 y3 y4 y5) (token_text.l1 (k + 1) y0 y1 y2 y3 y4 y5))
  | 0 => ⟨fun _ _ _ _ r h => by simp [token_text.l0] at h, fun _ _ _ _ _ r h => by simp [token_text.j1] at h, fun _ _ _ _ _ _ r h => by simp [token_text.j2] at h, fun _ _ _ _ _ _ r h => by simp [token_text.j3] at h, fun _ _ _ _ _ _ r h => by simp [token_text.l1] at h⟩
  | k + 1 => by
    obtain ⟨ih0, ih1, ih2, ih3, ih4⟩ := token_text.mono_l k
    refine ⟨?_, ?_, ?_, ?_, ?_⟩
    · intro y0 y1 y2 y3
      unfold token_text.l0
      repeat' first
      | (with_reducible exact ih0 _ _ _ _)
      | (with_reducible exact ih1 _ _ _ _ _)
      | (with_reducible exact ih2 _ _ _ _ _ _)
      | (with_reducible exact ih3 _ _ _ _ _ _)
      | (with_reducible exact ih4 _ _ _ _ _ _)
      | (with_reducible exact LeO.refl _)
      | (with_reducible exact LeO.none _)
      | (with_reducible refine LeO.ite ?_ ?_)
      | (with_reducible refine LeO.bind ?_ (fun _ => ?_))
      | exact ih0 _ _ _ _
      | exact ih1 _ _ _ _ _
      | exact ih2 _ _ _ _ _ _
      | exact ih3 _ _ _ _ _ _
      | exact ih4 _ _ _ _ _ _
      | exact LeO.none _
      | refine LeO.ite ?_ ?_
      | refine LeO.bind ?_ (fun _ => ?_)
    · intro y0 y1 y2 y3 y4
      unfold token_text.j1
      repeat' first
      | (with_reducible exact ih0 _ _ _ _)
      | (with_reducible exact ih1 _ _ _ _ _)
      | (with_reducible exact ih2 _ _ _ _ _ _)
      | (with_reducible exact ih3 _ _ _ _ _ _)
      | (with_reducible exact ih4 _ _ _ _ _ _)
      | (with_reducible exact LeO.refl _)
      | (with_reducible exact LeO.none _)
      | (with_reducible refine LeO.ite ?_ ?_)
      | (with_reducible refine LeO.bind ?_ (fun _ => ?_))
      | exact ih0 _ _ _ _
      | exact ih1 _ _ _ _ _
      | exact ih2 _ _ _ _ _ _
      | exact ih3 _ _ _ _ _ _
      | exact ih4 _ _ _ _ _ _
      | exact LeO.none _
      | refine LeO.ite ?_ ?_
      | refine LeO.bind ?_ (fun _ => ?_)
    · intro y0 y1 y2 y3 y4 y5
      unfold token_text.j2
      repeat' first
      | (with_reducible exact ih0 _ _ _ _)
      | (with_reducible exact ih1 _ _ _ _ _)
      | (with_reducible exact ih2 _ _ _ _ _ _)
      | (with_reducible exact ih3 _ _ _ _ _ _)
      | (with_reducible exact ih4 _ _ _ _ _ _)
      | (with_reducible exact LeO.refl _)
      | (with_reducible exact LeO.none _)
      | (with_reducible refine LeO.ite ?_ ?_)
      | (with_reducible refine LeO.bind ?_ (fun _ => ?_))
      | exact ih0 _ _ _ _
      | exact ih1 _ _ _ _ _
      | exact ih2 _ _ _ _ _ _
      | exact ih3 _ _ _ _ _ _
      | exact ih4 _ _ _ _ _ _
      | exact LeO.none _
      | refine LeO.ite ?_ ?_
      | refine LeO.bind ?_ (fun _ => ?_)
    · intro y0 y1 y2 y3 y4 y5
      unfold token_text.j3
      repeat' first
      | (with_reducible exact ih0 _ _ _ _)
      | (with_reducible exact ih1 _ _ _ _ _)
      | (with_reducible exact ih2 _ _ _ _ _ _)
      | (with_reducible exact ih3 _ _ _ _ _ _)
      | (with_reducible exact ih4 _ _ _ _ _ _)
      | (with_reducible exact LeO.refl _)
      | (with_reducible exact LeO.none _)
      | (with_reducible refine LeO.ite ?_ ?_)
      | (with_reducible refine LeO.bind ?_ (fun _ => ?_))
      | exact ih0 _ _ _ _
      | exact ih1 _ _ _ _ _
      | exact ih2 _ _ _ _ _ _
      | exact ih3 _ _ _ _ _ _
      | exact ih4 _ _ _ _ _ _
      | exact LeO.none _
      | refine LeO.ite ?_ ?_
      | refine LeO.bind ?_ (fun _ => ?_)
    · intro y0 y1 y2 y3 y4 y5
      unfold token_text.l1
      repeat' first
      | (with_reducible exact ih0 _ _ _ _)
      | (with_reducible exact ih1 _ _ _ _ _)
      | (with_reducible exact ih2 _ _ _ _ _ _)
      | (with_reducible exact ih3 _ _ _ _ _ _)
      | (with_reducible exact ih4 _ _ _ _ _ _)
      | (with_reducible exact LeO.refl _)
      | (with_reducible exact LeO.none _)
      | (with_reducible refine LeO.ite ?_ ?_)
      | (with_reducible refine LeO.bind ?_ (fun _ => ?_))
      | exact ih0 _ _ _ _
      | exact ih1 _ _ _ _ _
      | exact ih2 _ _ _ _ _ _
      | exact ih3 _ _ _ _ _ _
      | exact ih4 _ _ _ _ _ _
      | exact LeO.none _
      | refine LeO.ite ?_ ?_
      | refine LeO.bind ?_ (fun _ => ?_)
theorem token_text.mono : ∀ a0 a1 k, LeO (token_text.f k a0 a1) (token_text.f (k + 1) a0 a1) := by
  intro a0 a1 k
  obtain ⟨ih0, ih1, ih2, ih3, ih4⟩ := token_text.mono_l k
  unfold token_text.f
  repeat' first
      | (with_reducible exact ih0 _ _ _ _)
      | (with_reducible exact ih1 _ _ _ _ _)
      | (with_reducible exact ih2 _ _ _ _ _ _)
      | (with_reducible exact ih3 _ _ _ _ _ _)
      | (with_reducible exact ih4 _ _ _ _ _ _)
      | (with_reducible exact LeO.refl _)
      | (with_reducible exact LeO.none _)
      | (with_reducible refine LeO.ite ?_ ?_)
      | (with_reducible refine LeO.bind ?_ (fun _ => ?_))
      | exact ih0 _ _ _ _
      | exact ih1 _ _ _ _ _
      | exact ih2 _ _ _ _ _ _
      | exact ih3 _ _ _ _ _ _
      | exact ih4 _ _ _ _ _ _
      | exact LeO.none _
      | refine LeO.ite ?_ ?_
      | refine LeO.bind ?_ (fun _ => ?_)
set_option maxHeartbeats 8000000 in
set_option maxRecDepth 100000 in
theorem token_text.calls (k : Nat) (a0 : ByteArray) (a1 : Int) (r1 : ByteArray) (r2 : Int) (r3 : Int) (r4 : Int) (w : World) (h : token_text.f k a0 a1 = some (r1, r2, r3, r4)) :
    Calls Tryd.prog 45 #[.string a0, .int .i64 a1] w fun e w' => e = .returned (.tuple #[.string r1, .int .i64 r2, .int .i64 r3, .int .i64 r4]) ∧ Below w.heap.size w w' := by
  have HB := Aside0.mk (Below.refl w.heap.size w)
  have H : (token_text.l0 k a0 a1 ([] : List Int) (wrap64 (a1 + 1))) = some (r1, r2, r3, r4) := h
  clear h
  have H' := Aside0.mk H
  clear H
  go_enter Tryd.func45, Tryd.ntmps45
  go_wp2
  go_loopg [8, 9] k (fun kq v8 v9 w' => ∃ (x8_1 : List Int) (x9_1 : Int), v9 = .int .i64 x9_1 ∧ Aside0 (token_text.l0 kq a0 a1 x8_1 x9_1 = some (r1, r2, r3, r4)) ∧ Aside0 (kq ≤ k) ∧ Aside0 (Kd.R (Kd.int .u8) 5 w' w.heap.size (fun _ => True) v8 x8_1) ∧ Aside0 (Below w.heap.size w w'))
  case atStart => exact ⟨(([] : List Int)), (wrap64 (a1 + 1)), (by first | rfl | (simp; done) | (simp [*]; done)), H', ⟨Nat.le_refl _⟩, ⟨by first | exact Kd.R_nil _ _ _ _ _ | exact Kd.N_nil _ _ _ _ _ | exact Kd.V_nil _ _ _ _ _ | exact Kd.Q_nil _ _ _ _ _ | exact Kd.S_nil _ _ _ _ _⟩, ⟨by repeat (first | (with_reducible first | exact HB.out | apply below_alloc | apply pw_below_drewN | apply below_drew1) | exact HB.out)⟩⟩
  case round =>
    clear H'
    try clear p2
    obtain ⟨x8_1, x9_1, rfl, HA, HK1, HO_8, HB⟩ := hrel
    cases gk with
    | zero => exact absurd HA.out (by simp [token_text.l0])
    | succ k1 =>
      have H := HA.out
      clear HA
      simp only [token_text.l0] at H
      have HC3 := Aside0.mk H
      clear H
      go_upto_region 3 with (fail)
      go_cut [24] (fun v24 wc => ∃ (kq : Nat) (x24_2 : Bool), v24 = .bool x24_2 ∧ Aside0 (token_text.j1 kq a0 a1 x8_1 x9_1 x24_2 = some (r1, r2, r3, r4)) ∧ Aside0 (kq ≤ k1) ∧ Aside0 (Kd.R (Kd.int .u8) 5 wc w.heap.size (fun _ => True) u8 x8_1) ∧ Aside0 (Below w.heap.size w wc))
      case first =>
        have H := HC3.out
        clear HC3
        by_cases c4 : x9_1 < (a0.size : Int)
        · rw [if_pos c4] at H
          have c4b0 : decide (x9_1 < (a0.size : Int)) = true := decide_eq_true c4
          clear c4
          (first | rw [c4b0] | (simp only [i64_w, i32_w]; rw [c4b0]) | rw [c4b1] | skip)
          by_cases c5 : 0 ≤ x9_1
          · rw [if_pos c5] at H
            have c5b0 : decide (0 ≤ x9_1) = true := decide_eq_true c5
            clear c5
            have H' := Aside0.mk H
            clear H
            have p6 : 0 ≤ (x9_1 : Int) := of_decide_eq_true (by first | (with_reducible assumption) | assumption)
            have q6 : x9_1 < (a0.size : Int) := of_decide_eq_true (by first | (with_reducible assumption) | assumption)
            have hx6 := bt_at a0 x9_1
            replace p6 := eq_true p6
            replace q6 := eq_true q6
            go_wp2
            go_meet
            case rel => exact ⟨_, (((bt a0 x9_1) != 34)), (by first | rfl | (simp; done) | (simp [*]; done)), H', ⟨by have := HK1.out; first | omega | exact Nat.le_refl _⟩, ⟨by (with_reducible repeat (first | apply Kd.R_alloc | apply Kd.R_drewN | apply Kd.R_drew)); exact HO_8.out⟩, ⟨by repeat (first | (with_reducible first | exact HB.out | apply below_alloc | apply pw_below_drewN | apply below_drew1) | exact HB.out)⟩⟩
          · rw [if_neg c5] at H
            exact absurd H (by simp)
        · rw [if_neg c4] at H
          have c4b0 : decide (x9_1 < (a0.size : Int)) = false := decide_eq_false c4
          clear c4
          (first | rw [c4b0] | (simp only [i64_w, i32_w]; rw [c4b0]) | rw [c4b1] | skip)
          have H' := Aside0.mk H
          clear H
          go_wp2
          go_meet
          case rel => exact ⟨_, (false), (by first | rfl | (simp; done) | (simp [*]; done)), H', ⟨by have := HK1.out; first | omega | exact Nat.le_refl _⟩, ⟨by (with_reducible repeat (first | apply Kd.R_alloc | apply Kd.R_drewN | apply Kd.R_drew)); exact HO_8.out⟩, ⟨by repeat (first | (with_reducible first | exact HB.out | apply below_alloc | apply pw_below_drewN | apply below_drew1) | exact HB.out)⟩⟩
      case rest =>
        clear HC3
        try clear p2
        try clear c4
        try clear c4b0
        try clear c5
        try clear c5b0
        try clear p6
        try clear q6
        try clear hx6
        try clear p2
        try clear p6
        try clear q6
        obtain ⟨kq, x24_2, rfl, HA, HJ2, HO_8, HB⟩ := hcut
        cases kq with
        | zero => exact absurd HA.out (by simp [token_text.j1])
        | succ kj2 =>
          have H := HA.out
          clear HA
          simp only [token_text.j1] at H
          by_cases c7 : x24_2 = true
          · subst c7
            have H1 : (if 0 ≤ x9_1 then (if x9_1 < (a0.size : Int) then (if (bt a0 x9_1) < 32 then (token_text.j2 kj2 a0 a1 x8_1 x9_1 (bt a0 x9_1) true) else (token_text.j2 kj2 a0 a1 x8_1 x9_1 (bt a0 x9_1) (decide ((bt a0 x9_1) > 126)))) else (none)) else (none)) = some (r1, r2, r3, r4) := by rw [if_pos rfl] at H; exact H
            clear H
            have H := H1
            clear H1
            by_cases c8 : 0 ≤ x9_1
            · rw [if_pos c8] at H
              have c8b0 : decide (0 ≤ x9_1) = true := decide_eq_true c8
              clear c8
              by_cases c9 : x9_1 < (a0.size : Int)
              · rw [if_pos c9] at H
                have c9b0 : decide (x9_1 < (a0.size : Int)) = true := decide_eq_true c9
                clear c9
                have HC11 := Aside0.mk H
                clear H
                have p10 : 0 ≤ (x9_1 : Int) := of_decide_eq_true (by first | (with_reducible assumption) | assumption)
                have q10 : x9_1 < (a0.size : Int) := of_decide_eq_true (by first | (with_reducible assumption) | assumption)
                have hx10 := bt_at a0 x9_1
                replace p10 := eq_true p10
                replace q10 := eq_true q10
                go_upto_region 5 with (fail)
                go_cut [33] (fun v33 wc => ∃ (kq : Nat) (x33_10 : Bool), v33 = .bool x33_10 ∧ Aside0 (token_text.j2 kq a0 a1 x8_1 x9_1 (bt a0 x9_1) x33_10 = some (r1, r2, r3, r4)) ∧ Aside0 (kq ≤ kj2) ∧ Aside0 (Kd.R (Kd.int .u8) 5 wc w.heap.size (fun _ => True) u8 x8_1) ∧ Aside0 (Below w.heap.size w wc))
                case first =>
                  have H := HC11.out
                  clear HC11
                  by_cases c12 : (bt a0 x9_1) < 32
                  · rw [if_pos c12] at H
                    have c12b0 : decide ((bt a0 x9_1) < 32) = true := decide_eq_true c12
                    clear c12
                    (first | rw [c12b0] | (simp only [i64_w, i32_w]; rw [c12b0]) | rw [c12b1] | skip)
                    have H' := Aside0.mk H
                    clear H
                    go_wp2
                    go_meet
                    case rel => exact ⟨_, (true), (by first | rfl | (simp; done) | (simp [*]; done)), H', ⟨by have := HK1.out; have := HJ2.out; first | omega | exact Nat.le_refl _⟩, ⟨by (with_reducible repeat (first | apply Kd.R_alloc | apply Kd.R_drewN | apply Kd.R_drew)); exact HO_8.out⟩, ⟨by repeat (first | (with_reducible first | exact HB.out | apply below_alloc | apply pw_below_drewN | apply below_drew1) | exact HB.out)⟩⟩
                  · rw [if_neg c12] at H
                    have c12b0 : decide ((bt a0 x9_1) < 32) = false := decide_eq_false c12
                    clear c12
                    (first | rw [c12b0] | (simp only [i64_w, i32_w]; rw [c12b0]) | rw [c12b1] | skip)
                    have H' := Aside0.mk H
                    clear H
                    go_wp2
                    go_meet
                    case rel => exact ⟨_, (decide ((bt a0 x9_1) > 126)), (by first | rfl | (simp; done) | (simp [*]; done)), H', ⟨by have := HK1.out; have := HJ2.out; first | omega | exact Nat.le_refl _⟩, ⟨by (with_reducible repeat (first | apply Kd.R_alloc | apply Kd.R_drewN | apply Kd.R_drew)); exact HO_8.out⟩, ⟨by repeat (first | (with_reducible first | exact HB.out | apply below_alloc | apply pw_below_drewN | apply below_drew1) | exact HB.out)⟩⟩
                case rest =>
                  clear HC11
                  try clear c1
                  try clear p1
                  try clear q1
                  try clear hx1
                  try clear p2
                  try clear c4
                  try clear c4b0
                  try clear c5
                  try clear c5b0
                  try clear p6
                  try clear q6
                  try clear hx6
                  try clear c7
                  try clear c8
                  try clear c8b0
                  try clear c9
                  try clear c9b0
                  try clear p10
                  try clear q10
                  try clear hx10
                  try clear c12
                  try clear c12b0
                  try clear p10
                  try clear p2
                  try clear p6
                  try clear q10
                  try clear q6
                  obtain ⟨kq, x33_10, rfl, HA, HJ10, HO_8, HB⟩ := hcut
                  cases kq with
                  | zero => exact absurd HA.out (by simp [token_text.j2])
                  | succ kj10 =>
                    have H := HA.out
                    clear HA
                    simp only [token_text.j2] at H
                    by_cases c13 : x33_10 = true
                    · subst c13
                      have H1 : (some ((⟨#[]⟩ : ByteArray), 0, x9_1, 9)) = some (r1, r2, r3, r4) := by rw [if_pos rfl] at H; exact H
                      clear H
                      have H := H1
                      clear H1
                      simp only [Option.some.injEq, Prod.mk.injEq] at H
                      obtain ⟨rfl, rfl, rfl, rfl⟩ := H
                      go_wp2
                      refine bodyPost_ret (results_list (rs := [.tmp 4, .tmp 5, .tmp 6, .tmp 7]) rfl (by simp) (.tmp (.tmp (.tmp (.tmp .nil))))) rfl ?_
                      exact ⟨by first | rfl | (simp [errW_none, errW_some] <;> rfl) | (simp [*, errW_none, errW_some] <;> rfl), by repeat (first | (with_reducible first | exact HB.out | apply below_alloc | apply pw_below_drewN | apply below_drew1) | exact HB.out)⟩
                    · replace c13 := Bool.eq_false_iff.mpr c13
                      subst c13
                      have H1 : (if (bt a0 x9_1) = 92 then (if (wrap64 (x9_1 + 1)) = (a0.size : Int) then (if (wrap64 (x9_1 + 1)) ≥ (a0.size : Int) then (some ((⟨#[]⟩ : ByteArray), 0, (a0.size : Int), 4)) else (some (strOfNums x8_1, wrap64 ((wrap64 (x9_1 + 1)) + 1), 0, 0))) else (if 0 ≤ (wrap64 (x9_1 + 1)) then (if (wrap64 (x9_1 + 1)) < (a0.size : Int) then (if (bt a0 (wrap64 (x9_1 + 1))) = 34 then (token_text.j3 kj10 a0 a1 x8_1 (wrap64 (x9_1 + 1)) (bt a0 (wrap64 (x9_1 + 1))) ((bt a0 (wrap64 (x9_1 + 1))) == 34)) else (token_text.j3 kj10 a0 a1 x8_1 (wrap64 (x9_1 + 1)) (bt a0 (wrap64 (x9_1 + 1))) ((bt a0 (wrap64 (x9_1 + 1))) == 92))) else (none)) else (none))) else (if (x8_1.length : Int) = 4095 then (some ((⟨#[]⟩ : ByteArray), 0, a1, 2)) else (if x8_1.length < 140737488355328 then (token_text.l0 kj10 a0 a1 (x8_1 ++ [(bt a0 x9_1)]) (wrap64 (x9_1 + 1))) else (none)))) = some (r1, r2, r3, r4) := by rw [if_neg (show ¬ (false = true) by decide)] at H; exact H
                      clear H
                      have H := H1
                      clear H1
                      by_cases c14 : (bt a0 x9_1) = 92
                      · rw [if_pos c14] at H
                        have c14b0 : ((bt a0 x9_1) == 92) = true := beq_iff_eq.mpr c14
                        have c14b1 : ((bt a0 x9_1) != 92) = false := bne_eq_false_iff_eq.mpr c14
                        clear c14
                        by_cases c15 : (wrap64 (x9_1 + 1)) = (a0.size : Int)
                        · rw [if_pos c15] at H
                          have c15b0 : ((wrap64 (x9_1 + 1)) == (a0.size : Int)) = true := beq_iff_eq.mpr c15
                          have c15b1 : ((wrap64 (x9_1 + 1)) != (a0.size : Int)) = false := bne_eq_false_iff_eq.mpr c15
                          clear c15
                          by_cases c16 : (wrap64 (x9_1 + 1)) ≥ (a0.size : Int)
                          · rw [if_pos c16] at H
                            have c16b0 : decide ((a0.size : Int) ≤ (wrap64 (x9_1 + 1))) = true := decide_eq_true c16
                            clear c16
                            simp only [Option.some.injEq, Prod.mk.injEq] at H
                            obtain ⟨rfl, rfl, rfl, rfl⟩ := H
                            go_wp2
                            refine bodyPost_ret (results_list (rs := [.tmp 4, .tmp 5, .tmp 6, .tmp 7]) rfl (by simp) (.tmp (.tmp (.tmp (.tmp .nil))))) rfl ?_
                            exact ⟨by first | rfl | (simp [errW_none, errW_some] <;> rfl) | (simp [*, errW_none, errW_some] <;> rfl), by repeat (first | (with_reducible first | exact HB.out | apply below_alloc | apply pw_below_drewN | apply below_drew1) | exact HB.out)⟩
                          · rw [if_neg c16] at H
                            have c16b0 : decide ((a0.size : Int) ≤ (wrap64 (x9_1 + 1))) = false := decide_eq_false c16
                            clear c16
                            simp only [Option.some.injEq, Prod.mk.injEq] at H
                            obtain ⟨rfl, rfl, rfl, rfl⟩ := H
                            have hcv17 := own_string (P := Tryd.prog) Tryd.underlying54 Tryd.underlying5 Tryd.underlying9 (Kd.own_of_R HO_8.out)
                            go_wp2
                            refine bodyPost_ret (results_list (rs := [.tmp 4, .tmp 5, .tmp 6, .tmp 7]) rfl (by simp) (.tmp (.tmp (.tmp (.tmp .nil))))) rfl ?_
                            exact ⟨by first | rfl | (simp [errW_none, errW_some] <;> rfl) | (simp [*, errW_none, errW_some] <;> rfl), by repeat (first | (with_reducible first | exact HB.out | apply below_alloc | apply pw_below_drewN | apply below_drew1) | exact HB.out)⟩
                        · rw [if_neg c15] at H
                          have c15b0 : ((wrap64 (x9_1 + 1)) == (a0.size : Int)) = false := beq_eq_false_iff_ne.mpr c15
                          have c15b1 : ((wrap64 (x9_1 + 1)) != (a0.size : Int)) = true := bne_iff_ne.mpr c15
                          obtain ⟨ji18, hji18⟩ : ∃ j_ : Int, (wrap64 (x9_1 + 1)) = j_ := ⟨_, rfl⟩
                          replace H : (if 0 ≤ (ji18) then (if (ji18) < (a0.size : Int) then (if (bt a0 (ji18)) = 34 then (token_text.j3 kj10 a0 a1 x8_1 ji18 (bt a0 (ji18)) ((bt a0 (ji18)) == 34)) else (token_text.j3 kj10 a0 a1 x8_1 ji18 (bt a0 (ji18)) ((bt a0 (ji18)) == 92))) else (none)) else (none)) = some (r1, r2, r3, r4) := by first | (rw [hji18] at H; exact H) | (simp only [hji18] at H ⊢; exact H)
                          (try rw [hji18] at c15b0)
                          (try rw [hji18] at c15b1)
                          have hji18w : (IntKind.i64.wrap (x9_1 + 1)) = ji18 := (i64_w _).trans hji18
                          by_cases c19 : 0 ≤ (ji18)
                          · rw [if_pos c19] at H
                            have c19b0 : decide (0 ≤ (ji18)) = true := decide_eq_true c19
                            clear c19
                            by_cases c20 : (ji18) < (a0.size : Int)
                            · rw [if_pos c20] at H
                              have c20b0 : decide ((ji18) < (a0.size : Int)) = true := decide_eq_true c20
                              clear c20
                              have HC22 := Aside0.mk H
                              clear H
                              have p21 : 0 ≤ ((ji18) : Int) := of_decide_eq_true (by first | (with_reducible assumption) | assumption)
                              have q21 : (ji18) < (a0.size : Int) := of_decide_eq_true (by first | (with_reducible assumption) | assumption)
                              have hx21 := bt_at a0 (ji18)
                              replace p21 := eq_true p21
                              replace q21 := eq_true q21
                              go_upto_if 47 with (fail)
                              go_cut [47] (fun v47 wc => ∃ (kq : Nat) (x47_21 : Bool), v47 = .bool x47_21 ∧ Aside0 (token_text.j3 kq a0 a1 x8_1 ji18 (bt a0 (ji18)) x47_21 = some (r1, r2, r3, r4)) ∧ Aside0 (kq ≤ kj10) ∧ Aside0 (Kd.R (Kd.int .u8) 5 wc w.heap.size (fun _ => True) u8 x8_1) ∧ Aside0 (Below w.heap.size w wc))
                              case first =>
                                have H := HC22.out
                                clear HC22
                                by_cases c23 : (bt a0 (ji18)) = 34
                                · rw [if_pos c23] at H
                                  have c23b0 : ((bt a0 (ji18)) == 34) = true := beq_iff_eq.mpr c23
                                  have c23b1 : ((bt a0 (ji18)) != 34) = false := bne_eq_false_iff_eq.mpr c23
                                  clear c23
                                  (first | rw [c23b0] | (simp only [i64_w, i32_w]; rw [c23b0]) | rw [c23b1] | skip)
                                  have H' := Aside0.mk H
                                  clear H
                                  go_wp2
                                  go_meet
                                  case rel => exact ⟨_, (((bt a0 (ji18)) == 34)), (by first | rfl | (simp; done) | (simp only [← hji18] <;> (first | rfl | (simp; done))) | (simp [*]; done)), H', ⟨by have := HK1.out; have := HJ2.out; have := HJ10.out; first | omega | exact Nat.le_refl _⟩, ⟨by (with_reducible repeat (first | apply Kd.R_alloc | apply Kd.R_drewN | apply Kd.R_drew)); exact HO_8.out⟩, ⟨by repeat (first | (with_reducible first | exact HB.out | apply below_alloc | apply pw_below_drewN | apply below_drew1) | exact HB.out)⟩⟩
                                · rw [if_neg c23] at H
                                  have c23b0 : ((bt a0 (ji18)) == 34) = false := beq_eq_false_iff_ne.mpr c23
                                  have c23b1 : ((bt a0 (ji18)) != 34) = true := bne_iff_ne.mpr c23
                                  (first | rw [c23b0] | (simp only [i64_w, i32_w]; rw [c23b0]) | rw [c23b1] | skip)
                                  have H' := Aside0.mk H
                                  clear H
                                  go_wp2
                                  go_meet
                                  case rel => exact ⟨_, (((bt a0 (ji18)) == 92)), (by first | rfl | (simp; done) | (simp only [← hji18] <;> (first | rfl | (simp; done))) | (simp [*]; done)), H', ⟨by have := HK1.out; have := HJ2.out; have := HJ10.out; first | omega | exact Nat.le_refl _⟩, ⟨by (with_reducible repeat (first | apply Kd.R_alloc | apply Kd.R_drewN | apply Kd.R_drew)); exact HO_8.out⟩, ⟨by repeat (first | (with_reducible first | exact HB.out | apply below_alloc | apply pw_below_drewN | apply below_drew1) | exact HB.out)⟩⟩
                              case rest =>
                                clear HC22
                                try clear c1
                                try clear p1
                                try clear q1
                                try clear hx1
                                try clear hcv1
                                try clear c2
                                try clear p2
                                try clear q2
                                try clear hx2
                                try clear c4
                                try clear c4b0
                                try clear c5
                                try clear c5b0
                                try clear p6
                                try clear q6
                                try clear hx6
                                try clear c7
                                try clear c8
                                try clear c8b0
                                try clear c9
                                try clear c9b0
                                try clear p10
                                try clear q10
                                try clear hx10
                                try clear c12
                                try clear c12b0
                                try clear c13
                                try clear c14
                                try clear c14b0
                                try clear c14b1
                                try clear c15
                                try clear c15b0
                                try clear c15b1
                                try clear c16
                                try clear c16b0
                                try clear hcv17
                                try clear c19
                                try clear c19b0
                                try clear c20
                                try clear c20b0
                                try clear p21
                                try clear q21
                                try clear hx21
                                try clear c23
                                try clear c23b0
                                try clear c23b1
                                try clear p1
                                try clear p10
                                try clear p2
                                try clear p21
                                try clear p6
                                try clear q1
                                try clear q10
                                try clear q21
                                try clear q6
                                obtain ⟨kq, x47_21, rfl, HA, HJ21, HO_8, HB⟩ := hcut
                                cases kq with
                                | zero => exact absurd HA.out (by simp [token_text.j3])
                                | succ kj21 =>
                                  have H := HA.out
                                  clear HA
                                  simp only [token_text.j3] at H
                                  by_cases c24 : x47_21 = true
                                  · subst c24
                                    have H1 : (if 0 ≤ ji18 then (if ji18 < (a0.size : Int) then (if (x8_1.length : Int) = 4095 then (some ((⟨#[]⟩ : ByteArray), 0, a1, 2)) else (if x8_1.length < 140737488355328 then (token_text.l0 kj21 a0 a1 (x8_1 ++ [bt a0 ji18]) (wrap64 (ji18 + 1))) else (none))) else (none)) else (none)) = some (r1, r2, r3, r4) := by rw [if_pos rfl] at H; exact H
                                    clear H
                                    have H := H1
                                    clear H1
                                    by_cases c25 : 0 ≤ ji18
                                    · rw [if_pos c25] at H
                                      have c25b0 : decide (0 ≤ ji18) = true := decide_eq_true c25
                                      clear c25
                                      by_cases c26 : ji18 < (a0.size : Int)
                                      · rw [if_pos c26] at H
                                        have c26b0 : decide (ji18 < (a0.size : Int)) = true := decide_eq_true c26
                                        clear c26
                                        by_cases c28 : (x8_1.length : Int) = 4095
                                        · rw [if_pos c28] at H
                                          have c28b0 : ((x8_1.length : Int) == 4095) = true := beq_iff_eq.mpr c28
                                          have c28b1 : ((x8_1.length : Int) != 4095) = false := bne_eq_false_iff_eq.mpr c28
                                          clear c28
                                          simp only [Option.some.injEq, Prod.mk.injEq] at H
                                          obtain ⟨rfl, rfl, rfl, rfl⟩ := H
                                          have p27 : 0 ≤ (ji18 : Int) := of_decide_eq_true (by first | (with_reducible assumption) | assumption)
                                          have q27 : ji18 < (a0.size : Int) := of_decide_eq_true (by first | (with_reducible assumption) | assumption)
                                          have hx27 := bt_at a0 ji18
                                          replace p27 := eq_true p27
                                          replace q27 := eq_true q27
                                          obtain ⟨Ao29, co29, eo29⟩ := Kd.R_slice HO_8.out
                                          subst eo29
                                          go_wp2
                                          refine bodyPost_ret (results_list (rs := [.tmp 4, .tmp 5, .tmp 6, .tmp 7]) rfl (by simp) (.tmp (.tmp (.tmp (.tmp .nil))))) rfl ?_
                                          exact ⟨by first | rfl | (simp [errW_none, errW_some] <;> rfl) | (simp only [← hji18]; first | rfl | (simp [errW_none, errW_some] <;> rfl)) | (simp [*, errW_none, errW_some] <;> rfl), by repeat (first | (with_reducible first | exact HB.out | apply below_alloc | apply pw_below_drewN | apply below_drew1) | exact HB.out)⟩
                                        · rw [if_neg c28] at H
                                          have c28b0 : ((x8_1.length : Int) == 4095) = false := beq_eq_false_iff_ne.mpr c28
                                          have c28b1 : ((x8_1.length : Int) != 4095) = true := bne_iff_ne.mpr c28
                                          by_cases c30 : x8_1.length < 140737488355328
                                          · rw [if_pos c30] at H
                                            have LMc30 := Aside0.mk c30
                                            clear c30
                                            obtain ⟨y105, hy105⟩ : ∃ y_ : List Int, y_ = (x8_1 ++ [bt a0 ji18]) := ⟨_, rfl⟩
                                            replace H : (token_text.l0 kj21 a0 a1 y105 (wrap64 (ji18 + 1))) = some (r1, r2, r3, r4) := by first | (rw [hy105]; with_reducible exact H) | (have H2_ := (Option.bind_some _ _).symm.trans H; rw [hy105]; with_reducible exact H2_) | (have H2_ := (Option.bind_some _ _).symm.trans H; with_reducible exact H2_) | with_reducible exact H | (rw [hy105]; exact H) | exact H
                                            have Ny105 := Aside0.mk hy105
                                            clear hy105
                                            have H' := Aside0.mk H
                                            clear H
                                            have p27 : 0 ≤ (ji18 : Int) := of_decide_eq_true (by first | (with_reducible assumption) | assumption)
                                            have q27 : ji18 < (a0.size : Int) := of_decide_eq_true (by first | (with_reducible assumption) | assumption)
                                            have hx27 := bt_at a0 ji18
                                            replace p27 := eq_true p27
                                            replace q27 := eq_true q27
                                            obtain ⟨Ao31, co31, eo31⟩ := Kd.R_slice HO_8.out
                                            subst eo31
                                            go_wp2_with (first | ((with_reducible refine gate_builtin (b := .append) (xs := #[.tmp 86, .tmp 88]) rfl ?_); at_builtin; refine Kd.R_append (Kd.int .u8) (w0 := w) w.heap.size rfl (.tmp 86) (.tmp 88) 54 5 (.int .u8 0) 1 rfl Tryd.underlying54 info5 rfl (by decide) (by omega) (.slice Ao31 x8_1.length co31) x8_1 (bt a0 ji18) [.int .u8 (bt a0 ji18)] (fun _ => True) (fun _ => False) rfl rfl ?aP (fun _ hk => hk.elim) ?aF ?aO ?aB ?aS ?aL ?_; (case aP => exact rfl); (case aB => exact (by repeat (first | (with_reducible first | exact HB.out | apply below_alloc | apply pw_below_drewN | apply below_drew1) | exact HB.out))); (case aF => exact (fun _ _ => trivial)); (case aO => exact (by (with_reducible repeat (first | apply Kd.R_alloc | apply Kd.R_drewN | apply Kd.R_drew)); exact HO_8.out)); (case aS => exact (below_size (by repeat (first | (with_reducible first | exact HB.out | apply below_alloc | apply pw_below_drewN | apply below_drew1) | exact HB.out)))); (case aL => have := LMc30.out; omega); intro v106 w32 ho hb hg hat; rw [← Ny105.out] at ho; have n0_ := Aside0.mk (hb); have n1_ := Aside0.mk (ho); clear HB; clear HO_8; have HB := n0_; have HO107 := n1_; clear n0_ n1_; clear ho hb hg hat))
                                            go_roundg kj21
                                            case measure => have := HK1.out; have := HJ2.out; have := HJ10.out; have := HJ21.out; omega
                                            case rel => exact ⟨(y105), (wrap64 (ji18 + 1)), (by first | rfl | (simp; done) | (simp only [← hji18] <;> (first | rfl | (simp; done))) | (simp [*]; done)), H', ⟨by have := HK1.out; have := HJ2.out; have := HJ10.out; have := HJ21.out; omega⟩, ⟨by (with_reducible repeat (first | apply Kd.R_alloc | apply Kd.R_drewN | apply Kd.R_drew)); exact HO107.out⟩, ⟨by repeat (first | (with_reducible first | exact HB.out | apply below_alloc | apply pw_below_drewN | apply below_drew1) | exact HB.out)⟩⟩
                                          · rw [if_neg c30] at H
                                            exact absurd H (by simp)
                                      · rw [if_neg c26] at H
                                        exact absurd H (by simp)
                                    · rw [if_neg c25] at H
                                      exact absurd H (by simp)
                                  · replace c24 := Bool.eq_false_iff.mpr c24
                                    subst c24
                                    have H1 : (if (bt a0 (ji18)) = 110 then (if (x8_1.length : Int) = 4095 then (some ((⟨#[]⟩ : ByteArray), 0, a1, 2)) else (if x8_1.length < 140737488355328 then (token_text.l0 kj21 a0 a1 (x8_1 ++ [10]) (wrap64 (ji18 + 1))) else (none))) else (if (bt a0 (ji18)) = 120 then (token_text.l1 kj21 a0 a1 x8_1 ji18 0 0) else (some ((⟨#[]⟩ : ByteArray), 0, ji18, 9)))) = some (r1, r2, r3, r4) := by rw [if_neg (show ¬ (false = true) by decide)] at H; exact H
                                    clear H
                                    have H := H1
                                    clear H1
                                    by_cases c33 : (bt a0 (ji18)) = 110
                                    · rw [if_pos c33] at H
                                      have c33b0 : ((bt a0 (ji18)) == 110) = true := beq_iff_eq.mpr c33
                                      have c33b1 : ((bt a0 (ji18)) != 110) = false := bne_eq_false_iff_eq.mpr c33
                                      clear c33
                                      by_cases c34 : (x8_1.length : Int) = 4095
                                      · rw [if_pos c34] at H
                                        have c34b0 : ((x8_1.length : Int) == 4095) = true := beq_iff_eq.mpr c34
                                        have c34b1 : ((x8_1.length : Int) != 4095) = false := bne_eq_false_iff_eq.mpr c34
                                        clear c34
                                        simp only [Option.some.injEq, Prod.mk.injEq] at H
                                        obtain ⟨rfl, rfl, rfl, rfl⟩ := H
                                        obtain ⟨Ao35, co35, eo35⟩ := Kd.R_slice HO_8.out
                                        subst eo35
                                        go_wp2
                                        refine bodyPost_ret (results_list (rs := [.tmp 4, .tmp 5, .tmp 6, .tmp 7]) rfl (by simp) (.tmp (.tmp (.tmp (.tmp .nil))))) rfl ?_
                                        exact ⟨by first | rfl | (simp [errW_none, errW_some] <;> rfl) | (simp only [← hji18]; first | rfl | (simp [errW_none, errW_some] <;> rfl)) | (simp [*, errW_none, errW_some] <;> rfl), by repeat (first | (with_reducible first | exact HB.out | apply below_alloc | apply pw_below_drewN | apply below_drew1) | exact HB.out)⟩
                                      · rw [if_neg c34] at H
                                        have c34b0 : ((x8_1.length : Int) == 4095) = false := beq_eq_false_iff_ne.mpr c34
                                        have c34b1 : ((x8_1.length : Int) != 4095) = true := bne_iff_ne.mpr c34
                                        by_cases c36 : x8_1.length < 140737488355328
                                        · rw [if_pos c36] at H
                                          have LMc36 := Aside0.mk c36
                                          clear c36
                                          obtain ⟨y108, hy108⟩ : ∃ y_ : List Int, y_ = (x8_1 ++ [10]) := ⟨_, rfl⟩
                                          replace H : (token_text.l0 kj21 a0 a1 y108 (wrap64 (ji18 + 1))) = some (r1, r2, r3, r4) := by first | (rw [hy108]; with_reducible exact H) | (have H2_ := (Option.bind_some _ _).symm.trans H; rw [hy108]; with_reducible exact H2_) | (have H2_ := (Option.bind_some _ _).symm.trans H; with_reducible exact H2_) | with_reducible exact H | (rw [hy108]; exact H) | exact H
                                          have Ny108 := Aside0.mk hy108
                                          clear hy108
                                          have H' := Aside0.mk H
                                          clear H
                                          obtain ⟨Ao37, co37, eo37⟩ := Kd.R_slice HO_8.out
                                          subst eo37
                                          go_wp2_with (first | ((with_reducible refine gate_builtin (b := .append) (xs := #[.tmp 86, .tmp 88]) rfl ?_); at_builtin; refine Kd.R_append (Kd.int .u8) (w0 := w) w.heap.size rfl (.tmp 86) (.tmp 88) 54 5 (.int .u8 0) 1 rfl Tryd.underlying54 info5 rfl (by decide) (by omega) (.slice Ao37 x8_1.length co37) x8_1 10 [.int .u8 10] (fun _ => True) (fun _ => False) rfl rfl ?aP (fun _ hk => hk.elim) ?aF ?aO ?aB ?aS ?aL ?_; (case aP => exact rfl); (case aB => exact (by repeat (first | (with_reducible first | exact HB.out | apply below_alloc | apply pw_below_drewN | apply below_drew1) | exact HB.out))); (case aF => exact (fun _ _ => trivial)); (case aO => exact (by (with_reducible repeat (first | apply Kd.R_alloc | apply Kd.R_drewN | apply Kd.R_drew)); exact HO_8.out)); (case aS => exact (below_size (by repeat (first | (with_reducible first | exact HB.out | apply below_alloc | apply pw_below_drewN | apply below_drew1) | exact HB.out)))); (case aL => have := LMc36.out; omega); intro v109 w38 ho hb hg hat; rw [← Ny108.out] at ho; have n0_ := Aside0.mk (hb); have n1_ := Aside0.mk (ho); clear HB; clear HO_8; have HB := n0_; have HO110 := n1_; clear n0_ n1_; clear ho hb hg hat))
                                          go_roundg kj21
                                          case measure => have := HK1.out; have := HJ2.out; have := HJ10.out; have := HJ21.out; omega
                                          case rel => exact ⟨(y108), (wrap64 (ji18 + 1)), (by first | rfl | (simp; done) | (simp only [← hji18] <;> (first | rfl | (simp; done))) | (simp [*]; done)), H', ⟨by have := HK1.out; have := HJ2.out; have := HJ10.out; have := HJ21.out; omega⟩, ⟨by (with_reducible repeat (first | apply Kd.R_alloc | apply Kd.R_drewN | apply Kd.R_drew)); exact HO110.out⟩, ⟨by repeat (first | (with_reducible first | exact HB.out | apply below_alloc | apply pw_below_drewN | apply below_drew1) | exact HB.out)⟩⟩
                                        · rw [if_neg c36] at H
                                          exact absurd H (by simp)
                                    · rw [if_neg c33] at H
                                      have c33b0 : ((bt a0 (ji18)) == 110) = false := beq_eq_false_iff_ne.mpr c33
                                      have c33b1 : ((bt a0 (ji18)) != 110) = true := bne_iff_ne.mpr c33
                                      by_cases c39 : (bt a0 (ji18)) = 120
                                      · rw [if_pos c39] at H
                                        have c39b0 : ((bt a0 (ji18)) == 120) = true := beq_iff_eq.mpr c39
                                        have c39b1 : ((bt a0 (ji18)) != 120) = false := bne_eq_false_iff_eq.mpr c39
                                        clear c39
                                        have H' := Aside0.mk H
                                        clear H
                                        go_wp2
                                        go_loopg [9, 11, 57] kj21 (fun kq v9 v11 v57 w' => ∃ (x9_5 : Int) (x11_5 : Int) (x57_5 : Int), v9 = .int .i64 x9_5 ∧ v11 = .int .i64 x11_5 ∧ v57 = .int .i64 x57_5 ∧ Aside0 (token_text.l1 kq a0 a1 x8_1 x9_5 x11_5 x57_5 = some (r1, r2, r3, r4)) ∧ Aside0 (kq ≤ kj21) ∧ Aside0 (Kd.R (Kd.int .u8) 5 w' w.heap.size (fun _ => True) u8 x8_1) ∧ Aside0 (Below w.heap.size w w'))
                                        case atStart => exact ⟨(ji18), (0), (0), (by first | rfl | (simp; done) | (simp only [← hji18] <;> (first | rfl | (simp; done))) | (simp [*]; done)), (by first | rfl | (simp; done) | (simp [*]; done)), (by first | rfl | (simp; done) | (simp [*]; done)), H', ⟨Nat.le_refl _⟩, ⟨by (with_reducible repeat (first | apply Kd.R_alloc | apply Kd.R_drewN | apply Kd.R_drew)); exact HO_8.out⟩, ⟨by repeat (first | (with_reducible first | exact HB.out | apply below_alloc | apply pw_below_drewN | apply below_drew1) | exact HB.out)⟩⟩
                                        case round =>
                                          clear H'
                                          try clear c1
                                          try clear p1
                                          try clear q1
                                          try clear hx1
                                          try clear hcv1
                                          try clear c2
                                          try clear p2
                                          try clear q2
                                          try clear hx2
                                          try clear c3
                                          try clear c4
                                          try clear c4b0
                                          try clear c5
                                          try clear c5b0
                                          try clear p6
                                          try clear q6
                                          try clear hx6
                                          try clear c7
                                          try clear c8
                                          try clear c8b0
                                          try clear c9
                                          try clear c9b0
                                          try clear p10
                                          try clear q10
                                          try clear hx10
                                          try clear c12
                                          try clear c12b0
                                          try clear c13
                                          try clear c14
                                          try clear c14b0
                                          try clear c14b1
                                          try clear c15
                                          try clear c15b0
                                          try clear c15b1
                                          try clear c16
                                          try clear c16b0
                                          try clear hcv17
                                          try clear c19
                                          try clear c19b0
                                          try clear c20
                                          try clear c20b0
                                          try clear p21
                                          try clear q21
                                          try clear hx21
                                          try clear c23
                                          try clear c23b0
                                          try clear c23b1
                                          try clear c24
                                          try clear c25
                                          try clear c25b0
                                          try clear c26
                                          try clear c26b0
                                          try clear p27
                                          try clear q27
                                          try clear hx27
                                          try clear c28
                                          try clear c28b0
                                          try clear c28b1
                                          try clear c30
                                          try clear c33
                                          try clear c33b0
                                          try clear c33b1
                                          try clear c34
                                          try clear c34b0
                                          try clear c34b1
                                          try clear c36
                                          try clear c39
                                          try clear c39b0
                                          try clear c39b1
                                          try clear p1
                                          try clear p10
                                          try clear p2
                                          try clear p21
                                          try clear p27
                                          try clear p6
                                          try clear q1
                                          try clear q10
                                          try clear q2
                                          try clear q21
                                          try clear q27
                                          try clear q6
                                          obtain ⟨x9_5, x11_5, x57_5, rfl, rfl, rfl, HA, HK5, HO_8, HB⟩ := hrel
                                          cases gk with
                                          | zero => exact absurd HA.out (by simp [token_text.l1])
                                          | succ k5 =>
                                            have H := HA.out
                                            clear HA
                                            simp only [token_text.l1] at H
                                            by_cases c40 : x57_5 < 2
                                            · rw [if_pos c40] at H
                                              have c40b0 : decide (x57_5 < 2) = true := decide_eq_true c40
                                              clear c40
                                              by_cases c41 : (wrap64 (x9_5 + 1)) = (a0.size : Int)
                                              · rw [if_pos c41] at H
                                                have c41b0 : ((wrap64 (x9_5 + 1)) == (a0.size : Int)) = true := beq_iff_eq.mpr c41
                                                have c41b1 : ((wrap64 (x9_5 + 1)) != (a0.size : Int)) = false := bne_eq_false_iff_eq.mpr c41
                                                clear c41
                                                simp only [Option.some.injEq, Prod.mk.injEq] at H
                                                obtain ⟨rfl, rfl, rfl, rfl⟩ := H
                                                go_wp2
                                                refine bodyPost_ret (results_list (rs := [.tmp 4, .tmp 5, .tmp 6, .tmp 7]) rfl (by simp) (.tmp (.tmp (.tmp (.tmp .nil))))) rfl ?_
                                                exact ⟨by first | rfl | (simp [errW_none, errW_some] <;> rfl) | (simp only [← hji18]; first | rfl | (simp [errW_none, errW_some] <;> rfl)) | (simp [*, errW_none, errW_some] <;> rfl), by repeat (first | (with_reducible first | exact HB.out | apply below_alloc | apply pw_below_drewN | apply below_drew1) | exact HB.out)⟩
                                              · rw [if_neg c41] at H
                                                have c41b0 : ((wrap64 (x9_5 + 1)) == (a0.size : Int)) = false := beq_eq_false_iff_ne.mpr c41
                                                have c41b1 : ((wrap64 (x9_5 + 1)) != (a0.size : Int)) = true := bne_iff_ne.mpr c41
                                                obtain ⟨ji42, hji42⟩ : ∃ j_ : Int, (wrap64 (x9_5 + 1)) = j_ := ⟨_, rfl⟩
                                                replace H : (if 0 ≤ (ji42) then (if (ji42) < (a0.size : Int) then ((strings_IndexByte.f (⟨#[48, 49, 50, 51, 52, 53, 54, 55, 56, 57, 97, 98, 99, 100, 101, 102]⟩ : ByteArray) (bt a0 (ji42))).bind fun t114 => (if t114 < 0 then (some ((⟨#[]⟩ : ByteArray), 0, ji42, 9)) else (token_text.l1 k5 a0 a1 x8_1 ji42 (wrap64 ((wrap64 (16 * x11_5)) + t114)) (wrap64 (x57_5 + 1))))) else (none)) else (none)) = some (r1, r2, r3, r4) := by first | (rw [hji42] at H; exact H) | (simp only [hji42] at H ⊢; exact H)
                                                (try rw [hji42] at c41b0)
                                                (try rw [hji42] at c41b1)
                                                have hji42w : (IntKind.i64.wrap (x9_5 + 1)) = ji42 := (i64_w _).trans hji42
                                                by_cases c43 : 0 ≤ (ji42)
                                                · rw [if_pos c43] at H
                                                  have c43b0 : decide (0 ≤ (ji42)) = true := decide_eq_true c43
                                                  clear c43
                                                  by_cases c44 : (ji42) < (a0.size : Int)
                                                  · rw [if_pos c44] at H
                                                    have c44b0 : decide ((ji42) < (a0.size : Int)) = true := decide_eq_true c44
                                                    clear c44
                                                    replace H := Option.bind_eq_some_iff.mp H
                                                    obtain ⟨t114, A460, H⟩ := H
                                                    replace H : (if t114 < 0 then (some ((⟨#[]⟩ : ByteArray), 0, ji42, 9)) else (token_text.l1 k5 a0 a1 x8_1 ji42 (wrap64 ((wrap64 (16 * x11_5)) + t114)) (wrap64 (x57_5 + 1)))) = some (r1, r2, r3, r4) := H
                                                    have A46 := Aside0.mk A460
                                                    clear A460
                                                    by_cases c47 : t114 < 0
                                                    · rw [if_pos c47] at H
                                                      have c47b0 : decide (t114 < 0) = true := decide_eq_true c47
                                                      clear c47
                                                      simp only [Option.some.injEq, Prod.mk.injEq] at H
                                                      obtain ⟨rfl, rfl, rfl, rfl⟩ := H
                                                      have p45 : 0 ≤ ((ji42) : Int) := of_decide_eq_true (by first | (with_reducible assumption) | assumption)
                                                      have q45 : (ji42) < (a0.size : Int) := of_decide_eq_true (by first | (with_reducible assumption) | assumption)
                                                      have hx45 := bt_at a0 (ji42)
                                                      replace p45 := eq_true p45
                                                      replace q45 := eq_true q45
                                                      go_wp2_with (first | ((with_reducible refine gate_callee (f := 46) rfl ?_); refine goesL_ (some 69) rfl rfl Tryd.func46 (by kernel_rfl) rfl #[.string (⟨#[48, 49, 50, 51, 52, 53, 54, 55, 56, 57, 97, 98, 99, 100, 101, 102]⟩ : ByteArray), .int .u8 (bt a0 (ji42))] rfl (by (try simp only [List.map_toArray, List.map_cons, List.map_nil]); first | done | (simp only [hji42]; rfl) | rfl | (simp only [List.length_drop, List.length_take]; rfl)) ?_; (with_reducible refine (strings_IndexByte.calls (⟨#[48, 49, 50, 51, 52, 53, 54, 55, 56, 57, 97, 98, 99, 100, 101, 102]⟩ : ByteArray) (bt a0 (ji42)) t114 _ A46.out).mono ?_); rintro e w' ⟨rfl, ⟨nd, rfl⟩⟩; refine ⟨_, rfl, ?_⟩))
                                                      refine bodyPost_ret (results_list (rs := [.tmp 4, .tmp 5, .tmp 6, .tmp 7]) rfl (by simp) (.tmp (.tmp (.tmp (.tmp .nil))))) rfl ?_
                                                      exact ⟨by first | rfl | (simp [errW_none, errW_some] <;> rfl) | (simp only [← hji18, ← hji42]; first | rfl | (simp [errW_none, errW_some] <;> rfl)) | (simp [*, errW_none, errW_some] <;> rfl), by repeat (first | (with_reducible first | exact HB.out | apply below_alloc | apply pw_below_drewN | apply below_drew1) | exact HB.out)⟩
                                                    · rw [if_neg c47] at H
                                                      have c47b0 : decide (t114 < 0) = false := decide_eq_false c47
                                                      clear c47
                                                      have H' := Aside0.mk H
                                                      clear H
                                                      have p45 : 0 ≤ ((ji42) : Int) := of_decide_eq_true (by first | (with_reducible assumption) | assumption)
                                                      have q45 : (ji42) < (a0.size : Int) := of_decide_eq_true (by first | (with_reducible assumption) | assumption)
                                                      have hx45 := bt_at a0 (ji42)
                                                      replace p45 := eq_true p45
                                                      replace q45 := eq_true q45
                                                      go_wp2_with (first | ((with_reducible refine gate_callee (f := 46) rfl ?_); refine goesL_ (some 69) rfl rfl Tryd.func46 (by kernel_rfl) rfl #[.string (⟨#[48, 49, 50, 51, 52, 53, 54, 55, 56, 57, 97, 98, 99, 100, 101, 102]⟩ : ByteArray), .int .u8 (bt a0 (ji42))] rfl (by (try simp only [List.map_toArray, List.map_cons, List.map_nil]); first | done | (simp only [hji42]; rfl) | rfl | (simp only [List.length_drop, List.length_take]; rfl)) ?_; (with_reducible refine (strings_IndexByte.calls (⟨#[48, 49, 50, 51, 52, 53, 54, 55, 56, 57, 97, 98, 99, 100, 101, 102]⟩ : ByteArray) (bt a0 (ji42)) t114 _ A46.out).mono ?_); rintro e w' ⟨rfl, ⟨nd, rfl⟩⟩; refine ⟨_, rfl, ?_⟩))
                                                      go_roundg k5
                                                      case measure => have := HK1.out; have := HJ2.out; have := HJ10.out; have := HJ21.out; have := HK5.out; omega
                                                      case rel => exact ⟨(ji42), (wrap64 ((wrap64 (16 * x11_5)) + t114)), (wrap64 (x57_5 + 1)), (by first | rfl | (simp; done) | (simp only [← hji42] <;> (first | rfl | (simp; done))) | (simp [*]; done)), (by first | rfl | (simp; done) | (simp [*]; done)), (by first | rfl | (simp; done) | (simp [*]; done)), H', ⟨by have := HK1.out; have := HJ2.out; have := HJ10.out; have := HJ21.out; have := HK5.out; omega⟩, ⟨by (with_reducible repeat (first | apply Kd.R_alloc | apply Kd.R_drewN | apply Kd.R_drew)); exact HO_8.out⟩, ⟨by repeat (first | (with_reducible first | exact HB.out | apply below_alloc | apply pw_below_drewN | apply below_drew1) | exact HB.out)⟩⟩
                                                  · rw [if_neg c44] at H
                                                    exact absurd H (by simp)
                                                · rw [if_neg c43] at H
                                                  exact absurd H (by simp)
                                            · rw [if_neg c40] at H
                                              have c40b0 : decide (x57_5 < 2) = false := decide_eq_false c40
                                              clear c40
                                              by_cases c48 : (x8_1.length : Int) = 4095
                                              · rw [if_pos c48] at H
                                                have c48b0 : ((x8_1.length : Int) == 4095) = true := beq_iff_eq.mpr c48
                                                have c48b1 : ((x8_1.length : Int) != 4095) = false := bne_eq_false_iff_eq.mpr c48
                                                clear c48
                                                simp only [Option.some.injEq, Prod.mk.injEq] at H
                                                obtain ⟨rfl, rfl, rfl, rfl⟩ := H
                                                obtain ⟨Ao49, co49, eo49⟩ := Kd.R_slice HO_8.out
                                                subst eo49
                                                go_wp2
                                                refine bodyPost_ret (results_list (rs := [.tmp 4, .tmp 5, .tmp 6, .tmp 7]) rfl (by simp) (.tmp (.tmp (.tmp (.tmp .nil))))) rfl ?_
                                                exact ⟨by first | rfl | (simp [errW_none, errW_some] <;> rfl) | (simp only [← hji18]; first | rfl | (simp [errW_none, errW_some] <;> rfl)) | (simp [*, errW_none, errW_some] <;> rfl), by repeat (first | (with_reducible first | exact HB.out | apply below_alloc | apply pw_below_drewN | apply below_drew1) | exact HB.out)⟩
                                              · rw [if_neg c48] at H
                                                have c48b0 : ((x8_1.length : Int) == 4095) = false := beq_eq_false_iff_ne.mpr c48
                                                have c48b1 : ((x8_1.length : Int) != 4095) = true := bne_iff_ne.mpr c48
                                                by_cases c50 : x8_1.length < 140737488355328
                                                · rw [if_pos c50] at H
                                                  have LMc50 := Aside0.mk c50
                                                  clear c50
                                                  obtain ⟨y111, hy111⟩ : ∃ y_ : List Int, y_ = (x8_1 ++ [(x11_5) % 256]) := ⟨_, rfl⟩
                                                  replace H : (token_text.l0 k5 a0 a1 y111 (wrap64 (x9_5 + 1))) = some (r1, r2, r3, r4) := by first | (rw [hy111]; with_reducible exact H) | (have H2_ := (Option.bind_some _ _).symm.trans H; rw [hy111]; with_reducible exact H2_) | (have H2_ := (Option.bind_some _ _).symm.trans H; with_reducible exact H2_) | with_reducible exact H | (rw [hy111]; exact H) | exact H
                                                  have Ny111 := Aside0.mk hy111
                                                  clear hy111
                                                  have H' := Aside0.mk H
                                                  clear H
                                                  obtain ⟨Ao51, co51, eo51⟩ := Kd.R_slice HO_8.out
                                                  subst eo51
                                                  go_wp2_with (first | ((with_reducible refine gate_builtin (b := .append) (xs := #[.tmp 86, .tmp 88]) rfl ?_); at_builtin; refine Kd.R_append (Kd.int .u8) (w0 := w) w.heap.size rfl (.tmp 86) (.tmp 88) 54 5 (.int .u8 0) 1 rfl Tryd.underlying54 info5 rfl (by decide) (by omega) (.slice Ao51 x8_1.length co51) x8_1 ((x11_5) % 256) [.int .u8 ((x11_5) % 256)] (fun _ => True) (fun _ => False) rfl rfl ?aP (fun _ hk => hk.elim) ?aF ?aO ?aB ?aS ?aL ?_; (case aP => exact rfl); (case aB => exact (by repeat (first | (with_reducible first | exact HB.out | apply below_alloc | apply pw_below_drewN | apply below_drew1) | exact HB.out))); (case aF => exact (fun _ _ => trivial)); (case aO => exact (by (with_reducible repeat (first | apply Kd.R_alloc | apply Kd.R_drewN | apply Kd.R_drew)); exact HO_8.out)); (case aS => exact (below_size (by repeat (first | (with_reducible first | exact HB.out | apply below_alloc | apply pw_below_drewN | apply below_drew1) | exact HB.out)))); (case aL => have := LMc50.out; omega); intro v112 w52 ho hb hg hat; rw [← Ny111.out] at ho; have n0_ := Aside0.mk (hb); have n1_ := Aside0.mk (ho); clear HB; clear HO_8; have HB := n0_; have HO113 := n1_; clear n0_ n1_; clear ho hb hg hat))
                                                  go_roundg k5
                                                  case measure => have := HK1.out; have := HJ2.out; have := HJ10.out; have := HJ21.out; have := HK5.out; omega
                                                  case rel => exact ⟨(y111), (wrap64 (x9_5 + 1)), (by first | rfl | (simp; done) | (simp [*]; done)), H', ⟨by have := HK1.out; have := HJ2.out; have := HJ10.out; have := HJ21.out; have := HK5.out; omega⟩, ⟨by (with_reducible repeat (first | apply Kd.R_alloc | apply Kd.R_drewN | apply Kd.R_drew)); exact HO113.out⟩, ⟨by repeat (first | (with_reducible first | exact HB.out | apply below_alloc | apply pw_below_drewN | apply below_drew1) | exact HB.out)⟩⟩
                                                · rw [if_neg c50] at H
                                                  exact absurd H (by simp)
                                      · rw [if_neg c39] at H
                                        have c39b0 : ((bt a0 (ji18)) == 120) = false := beq_eq_false_iff_ne.mpr c39
                                        have c39b1 : ((bt a0 (ji18)) != 120) = true := bne_iff_ne.mpr c39
                                        simp only [Option.some.injEq, Prod.mk.injEq] at H
                                        obtain ⟨rfl, rfl, rfl, rfl⟩ := H
                                        go_wp2
                                        refine bodyPost_ret (results_list (rs := [.tmp 4, .tmp 5, .tmp 6, .tmp 7]) rfl (by simp) (.tmp (.tmp (.tmp (.tmp .nil))))) rfl ?_
                                        exact ⟨by first | rfl | (simp [errW_none, errW_some] <;> rfl) | (simp only [← hji18]; first | rfl | (simp [errW_none, errW_some] <;> rfl)) | (simp [*, errW_none, errW_some] <;> rfl), by repeat (first | (with_reducible first | exact HB.out | apply below_alloc | apply pw_below_drewN | apply below_drew1) | exact HB.out)⟩
                            · rw [if_neg c20] at H
                              exact absurd H (by simp)
                          · rw [if_neg c19] at H
                            exact absurd H (by simp)
                      · rw [if_neg c14] at H
                        have c14b0 : ((bt a0 x9_1) == 92) = false := beq_eq_false_iff_ne.mpr c14
                        have c14b1 : ((bt a0 x9_1) != 92) = true := bne_iff_ne.mpr c14
                        by_cases c53 : (x8_1.length : Int) = 4095
                        · rw [if_pos c53] at H
                          have c53b0 : ((x8_1.length : Int) == 4095) = true := beq_iff_eq.mpr c53
                          have c53b1 : ((x8_1.length : Int) != 4095) = false := bne_eq_false_iff_eq.mpr c53
                          clear c53
                          simp only [Option.some.injEq, Prod.mk.injEq] at H
                          obtain ⟨rfl, rfl, rfl, rfl⟩ := H
                          obtain ⟨Ao54, co54, eo54⟩ := Kd.R_slice HO_8.out
                          subst eo54
                          go_wp2
                          refine bodyPost_ret (results_list (rs := [.tmp 4, .tmp 5, .tmp 6, .tmp 7]) rfl (by simp) (.tmp (.tmp (.tmp (.tmp .nil))))) rfl ?_
                          exact ⟨by first | rfl | (simp [errW_none, errW_some] <;> rfl) | (simp [*, errW_none, errW_some] <;> rfl), by repeat (first | (with_reducible first | exact HB.out | apply below_alloc | apply pw_below_drewN | apply below_drew1) | exact HB.out)⟩
                        · rw [if_neg c53] at H
                          have c53b0 : ((x8_1.length : Int) == 4095) = false := beq_eq_false_iff_ne.mpr c53
                          have c53b1 : ((x8_1.length : Int) != 4095) = true := bne_iff_ne.mpr c53
                          by_cases c55 : x8_1.length < 140737488355328
                          · rw [if_pos c55] at H
                            have LMc55 := Aside0.mk c55
                            clear c55
                            obtain ⟨y115, hy115⟩ : ∃ y_ : List Int, y_ = (x8_1 ++ [(bt a0 x9_1)]) := ⟨_, rfl⟩
                            replace H : (token_text.l0 kj10 a0 a1 y115 (wrap64 (x9_1 + 1))) = some (r1, r2, r3, r4) := by first | (rw [hy115]; with_reducible exact H) | (have H2_ := (Option.bind_some _ _).symm.trans H; rw [hy115]; with_reducible exact H2_) | (have H2_ := (Option.bind_some _ _).symm.trans H; with_reducible exact H2_) | with_reducible exact H | (rw [hy115]; exact H) | exact H
                            have Ny115 := Aside0.mk hy115
                            clear hy115
                            have H' := Aside0.mk H
                            clear H
                            obtain ⟨Ao56, co56, eo56⟩ := Kd.R_slice HO_8.out
                            subst eo56
                            go_wp2_with (first | ((with_reducible refine gate_builtin (b := .append) (xs := #[.tmp 86, .tmp 88]) rfl ?_); at_builtin; refine Kd.R_append (Kd.int .u8) (w0 := w) w.heap.size rfl (.tmp 86) (.tmp 88) 54 5 (.int .u8 0) 1 rfl Tryd.underlying54 info5 rfl (by decide) (by omega) (.slice Ao56 x8_1.length co56) x8_1 (bt a0 x9_1) [.int .u8 (bt a0 x9_1)] (fun _ => True) (fun _ => False) rfl rfl ?aP (fun _ hk => hk.elim) ?aF ?aO ?aB ?aS ?aL ?_; (case aP => exact rfl); (case aB => exact (by repeat (first | (with_reducible first | exact HB.out | apply below_alloc | apply pw_below_drewN | apply below_drew1) | exact HB.out))); (case aF => exact (fun _ _ => trivial)); (case aO => exact (by (with_reducible repeat (first | apply Kd.R_alloc | apply Kd.R_drewN | apply Kd.R_drew)); exact HO_8.out)); (case aS => exact (below_size (by repeat (first | (with_reducible first | exact HB.out | apply below_alloc | apply pw_below_drewN | apply below_drew1) | exact HB.out)))); (case aL => have := LMc55.out; omega); intro v116 w57 ho hb hg hat; rw [← Ny115.out] at ho; have n0_ := Aside0.mk (hb); have n1_ := Aside0.mk (ho); clear HB; clear HO_8; have HB := n0_; have HO117 := n1_; clear n0_ n1_; clear ho hb hg hat))
                            go_roundg kj10
                            case measure => have := HK1.out; have := HJ2.out; have := HJ10.out; omega
                            case rel => exact ⟨(y115), (wrap64 (x9_1 + 1)), (by first | rfl | (simp; done) | (simp [*]; done)), H', ⟨by have := HK1.out; have := HJ2.out; have := HJ10.out; omega⟩, ⟨by (with_reducible repeat (first | apply Kd.R_alloc | apply Kd.R_drewN | apply Kd.R_drew)); exact HO117.out⟩, ⟨by repeat (first | (with_reducible first | exact HB.out | apply below_alloc | apply pw_below_drewN | apply below_drew1) | exact HB.out)⟩⟩
                          · rw [if_neg c55] at H
                            exact absurd H (by simp)
              · rw [if_neg c9] at H
                exact absurd H (by simp)
            · rw [if_neg c8] at H
              exact absurd H (by simp)
          · replace c7 := Bool.eq_false_iff.mpr c7
            subst c7
            have H1 : (if x9_1 ≥ (a0.size : Int) then (some ((⟨#[]⟩ : ByteArray), 0, (a0.size : Int), 4)) else (some (strOfNums x8_1, wrap64 (x9_1 + 1), 0, 0))) = some (r1, r2, r3, r4) := by rw [if_neg (show ¬ (false = true) by decide)] at H; exact H
            clear H
            have H := H1
            clear H1
            by_cases c58 : x9_1 ≥ (a0.size : Int)
            · rw [if_pos c58] at H
              have c58b0 : decide ((a0.size : Int) ≤ x9_1) = true := decide_eq_true c58
              clear c58
              simp only [Option.some.injEq, Prod.mk.injEq] at H
              obtain ⟨rfl, rfl, rfl, rfl⟩ := H
              go_wp2
              refine bodyPost_ret (results_list (rs := [.tmp 4, .tmp 5, .tmp 6, .tmp 7]) rfl (by simp) (.tmp (.tmp (.tmp (.tmp .nil))))) rfl ?_
              exact ⟨by first | rfl | (simp [errW_none, errW_some] <;> rfl) | (simp [*, errW_none, errW_some] <;> rfl), by repeat (first | (with_reducible first | exact HB.out | apply below_alloc | apply pw_below_drewN | apply below_drew1) | exact HB.out)⟩
            · rw [if_neg c58] at H
              have c58b0 : decide ((a0.size : Int) ≤ x9_1) = false := decide_eq_false c58
              clear c58
              simp only [Option.some.injEq, Prod.mk.injEq] at H
              obtain ⟨rfl, rfl, rfl, rfl⟩ := H
              have hcv59 := own_string (P := Tryd.prog) Tryd.underlying54 Tryd.underlying5 Tryd.underlying9 (Kd.own_of_R HO_8.out)
              go_wp2
              refine bodyPost_ret (results_list (rs := [.tmp 4, .tmp 5, .tmp 6, .tmp 7]) rfl (by simp) (.tmp (.tmp (.tmp (.tmp .nil))))) rfl ?_
              exact ⟨by first | rfl | (simp [errW_none, errW_some] <;> rfl) | (simp [*, errW_none, errW_some] <;> rfl), by repeat (first | (with_reducible first | exact HB.out | apply below_alloc | apply pw_below_drewN | apply below_drew1) | exact HB.out)⟩
end Go.Proofs.YtlbchdalimngjaaDoor.P
namespace Go.Proofs.YtlbchdalimngjaaDoor.P
open Go.RowKit Go.Proofs.YtlbchdalimngjaaDoorW.PrintWords Go.Proofs.YtlbchdalimngjaaDoorW.PrintLast Go.Proofs.YtlbchdalimngjaaDoorW.PrintMore
attribute [local go_sem] max2_int min2_int max_two min_two max_three min_three max_four min_four
set_option linter.unusedVariables false
set_option linter.unusedSimpArgs false
inductive Step07 where
  | skip (i : Int)
  | tok (x : S40) (i : Int)
  | bad (i e : Int)
def token_All.rem : Nat → ByteArray → Int → Option Int
  | 0, _, _ => none
  | k + 1, s, i => if i < (s.size : Int) then (if bt s i = 10 then some i else token_All.rem k s (wrap64 (i + 1))) else some i
def token_All.wd : Nat → ByteArray → Int → Option Int
  | 0, _, _ => none
  | k + 1, s, i => if i < (s.size : Int) then ((token_inner.f (bt s i)).bind fun b => if b = true then token_All.wd k s (wrap64 (i + 1)) else some i) else some i
def token_All.sg (s : ByteArray) (i c e : Int) : Option Step07 :=
  (strings_IndexByte.f (⟨#[40, 41, 123, 125, 91, 93, 44, 61, 60, 43, 45, 42, 47, 37, 33]⟩ : ByteArray) c).bind fun t =>
    if t < 0 then some (.bad i 9) else
    (strings_IndexByte.f (⟨#[61, 60, 33]⟩ : ByteArray) c).bind fun u =>
      if 0 ≤ u then (if e < (s.size : Int) then (if bt s e = 61 then some (.tok ⟨4, s.extract i.toNat (wrap64 (e + 1)).toNat, 0, i⟩ (wrap64 (e + 1))) else some (.tok ⟨4, s.extract i.toNat e.toNat, 0, i⟩ e)) else some (.tok ⟨4, s.extract i.toNat e.toNat, 0, i⟩ e))
      else some (.tok ⟨4, s.extract i.toNat e.toNat, 0, i⟩ e)
def token_All.one (k : Nat) (s : ByteArray) (i c e : Int) : Option Step07 :=
  if c = 32 then some (.skip (wrap64 (i + 1))) else
  if c = 10 then some (.skip (wrap64 (i + 1))) else
  if c = 35 then (token_All.rem k s i).bind fun j => some (.skip j) else
  (token_letter.f c).bind fun b => if b = true then
    ((token_All.wd k s e).bind fun j => if wrap64 (j - i) > 24 then some (.bad i 2) else if j ≤ (s.size : Int) then (if i ≤ j then some (.tok ⟨1, s.extract i.toNat j.toNat, 0, i⟩ j) else none) else none) else
  (token_digit.f c).bind fun b => if b = true then
    ((token_number.f k s i).bind fun q => if q.2.2.2 = 0 then some (.tok ⟨2, ⟨#[]⟩, q.1, i⟩ q.2.1) else some (.bad q.2.2.1 q.2.2.2)) else
  if c = 34 then ((token_text.f k s i).bind fun q => if q.2.2.2 = 0 then some (.tok ⟨3, q.1, 0, i⟩ q.2.1) else some (.bad q.2.2.1 q.2.2.2)) else
  if c = 33 then (if e = (s.size : Int) then some (.bad e 4) else if e < (s.size : Int) then (if bt s e = 61 then token_All.sg s i c e else some (.bad e 9)) else none) else
  token_All.sg s i c e
def token_All.l0 : Nat → ByteArray → List S40 → Int → Option (List S40 × Int × Int)
  | 0, _, _, _ => none
  | k + 1, s, l, i => if i < (s.size : Int) then (if 0 ≤ i then ((token_All.one k s i (bt s i) (wrap64 (i + 1))).bind fun
      | .skip j => token_All.l0 k s l j
      | .tok x j => if l.length < 3518437208883 then token_All.l0 k s (l ++ [x]) j else none
      | .bad a e => some ([], a, e)) else none) else some (l, 0, 0)
def token_All.f (k : Nat) (a0 : ByteArray) : Option (List S40 × Int × Int) := if (a0.size : Int) > 16384 then some (([] : List S40), 0, 2) else token_All.l0 k a0 [] 0
theorem token_All.rem_mono : ∀ k s i, LeO (token_All.rem k s i) (token_All.rem (k + 1) s i)
  | 0, _, _ => fun r h => by simp [token_All.rem] at h
  | k + 1, s, i => by
    have ih := token_All.rem_mono k
    unfold token_All.rem
    repeat' first | exact ih _ _ | exact LeO.refl _ | exact LeO.none _ | refine LeO.ite ?_ ?_ | refine LeO.bind ?_ (fun _ => ?_)
theorem token_All.wd_mono : ∀ k s i, LeO (token_All.wd k s i) (token_All.wd (k + 1) s i)
  | 0, _, _ => fun r h => by simp [token_All.wd] at h
  | k + 1, s, i => by
    have ih := token_All.wd_mono k
    unfold token_All.wd
    repeat' first | exact ih _ _ | exact LeO.refl _ | exact LeO.none _ | refine LeO.ite ?_ ?_ | refine LeO.bind ?_ (fun _ => ?_)
theorem token_All.one_mono (k : Nat) (s : ByteArray) (i c e : Int) : LeO (token_All.one k s i c e) (token_All.one (k + 1) s i c e) := by
  unfold token_All.one
  repeat' first | exact token_All.rem_mono _ _ _ | exact token_All.wd_mono _ _ _ | exact token_number.mono _ _ _ | exact token_text.mono _ _ _ | exact LeO.refl _ | exact LeO.none _ | refine LeO.ite ?_ ?_ | refine LeO.bind ?_ (fun _ => ?_)
theorem token_All.l0_mono : ∀ k s l i, LeO (token_All.l0 k s l i) (token_All.l0 (k + 1) s l i)
  | 0, _, _, _ => fun r h => by simp [token_All.l0] at h
  | k + 1, s, l, i => by
    have ih := token_All.l0_mono k
    rw [token_All.l0, token_All.l0]
    refine LeO.ite (LeO.ite (LeO.bind (token_All.one_mono _ _ _ _ _) (fun st => ?_)) (LeO.refl _)) (LeO.refl _)
    cases st with
    | skip j => exact ih _ _ _
    | tok x j => exact LeO.ite (ih _ _ _) (LeO.refl _)
    | bad a e => exact LeO.refl _
theorem token_All.mono : ∀ a0 k, LeO (token_All.f k a0) (token_All.f (k + 1) a0) := by
  intro a0 k
  unfold token_All.f
  exact LeO.ite (LeO.refl _) (token_All.l0_mono _ _ _ _)
end Go.Proofs.YtlbchdalimngjaaDoor.P
namespace Go.Proofs.YtlbchdalimngjaaDoor.P
open Go.RowKit Go.Proofs.YtlbchdalimngjaaDoorW.PrintWords Go.Proofs.YtlbchdalimngjaaDoorW.PrintLast Go.Proofs.YtlbchdalimngjaaDoorW.PrintMore
attribute [local go_sem] max2_int min2_int max_two min_two max_three min_three max_four min_four
set_option linter.unusedVariables false
set_option linter.unusedSimpArgs false
theorem ite_some {p : Prop} [Decidable p] {α : Type} {c : Option α} {r : α} (h : (if p then c else none) = some r) : p ∧ c = some r := by
  split at h
  · exact ⟨‹_›, h⟩
  · cases h
section
variable {P : Program} {Q : Exit → Act → World → Prop} {a : Act} {w : World}
theorem wp_scope_k {c B : Code} (l : Nat) (J : Act → World → Prop) (hf : findLabel c l = some (.seq .skip B))
    (pass : ∀ a w, J a w → B.wp P (Exit.noGoto Q) a w)
    (first : ∀ J' : Act → World → Prop, (∀ a w, J a w → J' a w) → (∀ a w, J a w → B.wp P (Exit.jump l J' Q) a w) → c.wp P (Exit.jump l J' Q) a w) : (Code.scope c).wp P Q a w := by
  have up : ∀ (J2 : Act → World → Prop) (a : Act) (w : World), J a w → B.wp P (Exit.jump l J2 Q) a w := fun J2 a w h => wp_mono (pass a w h) (by
    intro e a' w' hq
    cases e <;> first | exact hq | exact hq.elim)
  exact wp_scope_jumps l J (fun _ _ => 0) hf (first J (fun _ _ h => h) (up J)) (fun a w h => wp_seq (wp_skip (up _ a w h)))
variable {l : Nat} {J : Act → World → Prop}
theorem jump_normal : Exit.jump l J Q .normal a w = Q .normal a w := rfl
theorem jump_exit (id : Nat) : Exit.jump l J Q (.exit id) a w = Q (.exit id) a w := rfl
theorem jump_ret : Exit.jump l J Q .ret a w = Q .ret a w := rfl
theorem jump_panic (ch : List PanicEntry) : Exit.jump l J Q (.panic ch) a w = Q (.panic ch) a w := rfl
theorem jump_goto (h : J a w) : Exit.jump l J Q (.goto l) a w := ⟨rfl, h⟩
end
attribute [local go_sem] jump_normal jump_exit jump_ret jump_panic
set_option maxHeartbeats 8000000 in
set_option maxRecDepth 100000 in
theorem token_All.calls (k : Nat) (a0 : ByteArray) (r1 : List S40) (r2 : Int) (r3 : Int) (w : World) (h : token_All.f k a0 = some (r1, r2, r3)) :
    Calls Tryd.prog 14 #[.string a0] w fun e w' => ∃ v0_ : Value, e = .returned (.tuple #[v0_, .int .i64 r2, .int .i64 r3]) ∧ Kd.R k40 40 w' w.heap.size (fun _ => True) v0_ r1 ∧ Below w.heap.size w w' := by
  have hu33 := Tryd.underlying40
  have HB := Aside0.mk (Below.refl w.heap.size w)
  by_cases c2 : (a0.size : Int) > 16384
  · have H : some (([] : List S40), (0 : Int), (2 : Int)) = some (r1, r2, r3) := by unfold token_All.f at h; rwa [if_pos c2] at h
    clear h
    have c2b0 : decide (16384 < (a0.size : Int)) = true := decide_eq_true c2
    have c2b1 : decide (16384 < a0.size) = true := decide_eq_true (by omega)
    clear c2
    simp only [Option.some.injEq, Prod.mk.injEq] at H
    obtain ⟨rfl, rfl, rfl⟩ := H
    go_enter Tryd.func14, Tryd.ntmps14
    go_wp2
    go_step3
    go_wp2
    (try rw [Exit.noGoto_ret])
    go_ret3
    exact ⟨_, rfl, Kd.R_nil _ _ _ _ _, by repeat (first | (with_reducible first | exact HB.out | apply below_alloc | apply pw_below_drewN | apply below_drew1) | exact HB.out)⟩
  · have H : token_All.l0 k a0 [] 0 = some (r1, r2, r3) := by unfold token_All.f at h; rwa [if_neg c2] at h
    clear h
    have c2b0 : decide (16384 < (a0.size : Int)) = false := decide_eq_false c2
    have c2b1 : decide (16384 < a0.size) = false := decide_eq_false (by omega)
    have hsz := Aside0.mk c2
    clear c2
    have H' := Aside0.mk H
    clear H
    go_enter Tryd.func14, Tryd.ntmps14
    go_wp2
    go_step3
    go_wp2
    go_step3
    go_wp2
    go_loopg [2, 5] k (fun kq v2 v5 w' => ∃ (x2 : List S40) (x5 : Int), v5 = .int .i64 x5 ∧ Aside0 (token_All.l0 kq a0 x2 x5 = some (r1, r2, r3)) ∧ Aside0 (kq ≤ k) ∧ Aside0 (Kd.R k40 40 w' w.heap.size (fun _ => True) v2 x2) ∧ Aside0 (Below w.heap.size w w'))
    case atStart => exact ⟨[], 0, rfl, H', ⟨Nat.le_refl _⟩, ⟨Kd.R_nil _ _ _ _ _⟩, ⟨by repeat (first | (with_reducible first | exact HB.out | apply below_alloc | apply pw_below_drewN | apply below_drew1) | exact HB.out)⟩⟩
    case round =>
      clear H'
      try clear c2b0
      try clear c2b1
      obtain ⟨x2, x5, rfl, HA, HK1, HO, HB⟩ := hrel
      cases gk with
      | zero => exact absurd HA.out (by simp [token_All.l0])
      | succ k1 =>
        have H := HA.out
        clear HA
        rw [token_All.l0] at H
        by_cases c4 : x5 < (a0.size : Int)
        · rw [if_pos c4] at H
          have c4b0 : decide (x5 < (a0.size : Int)) = true := decide_eq_true c4
          by_cases c5 : 0 ≤ x5
          · rw [if_pos c5] at H
            have c5b0 : decide (0 ≤ x5) = true := decide_eq_true c5
            obtain ⟨st, A0, H⟩ := Option.bind_eq_some_iff.mp H
            have AS := Aside0.mk A0
            clear A0
            have HH := Aside0.mk H
            clear H
            have p5 := eq_true c5
            have q5 := eq_true c4
            have hx5 := bt_at a0 x5
            clear c4 c5
            go_wp2
            refine wp_scope_k (B := ?B) 1 (fun a' w' => ∃ (x : S40) (en : Int) (kq gb : Nat) (v2 : Value) (y3 y4 y6 y12 y13 y14 y15 y16 y17 y18 y19 y20 y21 y22 y23 y24 y25 y26 y27 y28 y29 y30 y31 y32 y33 y34 y35 y36 y37 y38 y39 y40 y41 y42 y43 y44 y45 y46 y47 y48 y49 y50 y51 y52 y53 y54 y55 y56 y57 y58 y59 y60 y61 y62 y63 y64 y65 y66 y67 y68 y69 y70 y71 y72 y73 y74 y75 y76 y77 y78 y79 y80 y81 y82 y83 y84 y85 y86 y87 y88 y89 y90 y91 y92 y93 y94 y95 y96 y97 y98 y99 y100 y101 y102 y103 y104 y105 y106 y107 y108 y109 y110 y111 y112 y113 y114 y115 y116 y117 y118 y119 y120 y121 y122 y123 y124 y125 y126 y127 y128 y129 y130 y131 y132 y133 y134 y135 y136 y137 y138 y139 y140 y141 y142 y143 y144 y145 y146 y147 y148 y149 y150 y151 y152 y153 y154 y155 y156 y157 y158 y159 : Value), Aside0 (token_All.l0 kq a0 (x2 ++ [x]) en = some (r1, r2, r3)) ∧ Aside0 (kq ≤ k1) ∧ Aside0 (w'.heap[gb]? = some (.cells #[.int .u8 x.f0, .string x.f1, .int .i64 x.f2, .int .i64 x.f3] 40 (0, 0))) ∧ Aside0 (Kd.R k40 40 w' w.heap.size (fun k => k ≠ gb) v2 x2) ∧ Aside0 (Below w.heap.size w w') ∧ Aside0 (w.heap.size ≤ gb) ∧ Aside0 (x2.length < 3518437208883) ∧ a' = { tmps := #[.string a0, undef, v2, y3, y4, .int .i64 x5, y6, .pointer (some ⟨gb, 0, none⟩), .int .i64 en, .string a0, .int .i64 (a0.size : Int), .bool false, y12, y13, y14, y15, y16, y17, y18, y19, y20, y21, y22, y23, y24, y25, y26, y27, y28, y29, y30, y31, y32, y33, y34, y35, y36, y37, y38, y39, y40, y41, y42, y43, y44, y45, y46, y47, y48, y49, y50, y51, y52, y53, y54, y55, y56, y57, y58, y59, y60, y61, y62, y63, y64, y65, y66, y67, y68, y69, y70, y71, y72, y73, y74, y75, y76, y77, y78, y79, y80, y81, y82, y83, y84, y85, y86, y87, y88, y89, y90, y91, y92, y93, y94, y95, y96, y97, y98, y99, y100, y101, y102, y103, y104, y105, y106, y107, y108, y109, y110, y111, y112, y113, y114, y115, y116, y117, y118, y119, y120, y121, y122, y123, y124, y125, y126, y127, y128, y129, y130, y131, y132, y133, y134, y135, y136, y137, y138, y139, y140, y141, y142, y143, y144, y145, y146, y147, y148, y149, y150, y151, y152, y153, y154, y155, y156, y157, y158, y159, undef], defers := [] }) ?hf ?_ ?_
            case hf => simp only [findLabel]; rfl
            · intro a' w' hinv
              obtain ⟨x, hinv⟩ := hinv
              obtain ⟨en, hinv⟩ := hinv
              obtain ⟨kq, hinv⟩ := hinv
              obtain ⟨gb, hinv⟩ := hinv
              obtain ⟨v2, hinv⟩ := hinv
              obtain ⟨y3, hinv⟩ := hinv
              obtain ⟨y4, hinv⟩ := hinv
              obtain ⟨y6, hinv⟩ := hinv
              obtain ⟨y12, hinv⟩ := hinv
              obtain ⟨y13, hinv⟩ := hinv
              obtain ⟨y14, hinv⟩ := hinv
              obtain ⟨y15, hinv⟩ := hinv
              obtain ⟨y16, hinv⟩ := hinv
              obtain ⟨y17, hinv⟩ := hinv
              obtain ⟨y18, hinv⟩ := hinv
              obtain ⟨y19, hinv⟩ := hinv
              obtain ⟨y20, hinv⟩ := hinv
              obtain ⟨y21, hinv⟩ := hinv
              obtain ⟨y22, hinv⟩ := hinv
              obtain ⟨y23, hinv⟩ := hinv
              obtain ⟨y24, hinv⟩ := hinv
              obtain ⟨y25, hinv⟩ := hinv
              obtain ⟨y26, hinv⟩ := hinv
              obtain ⟨y27, hinv⟩ := hinv
              obtain ⟨y28, hinv⟩ := hinv
              obtain ⟨y29, hinv⟩ := hinv
              obtain ⟨y30, hinv⟩ := hinv
              obtain ⟨y31, hinv⟩ := hinv
              obtain ⟨y32, hinv⟩ := hinv
              obtain ⟨y33, hinv⟩ := hinv
              obtain ⟨y34, hinv⟩ := hinv
              obtain ⟨y35, hinv⟩ := hinv
              obtain ⟨y36, hinv⟩ := hinv
              obtain ⟨y37, hinv⟩ := hinv
              obtain ⟨y38, hinv⟩ := hinv
              obtain ⟨y39, hinv⟩ := hinv
              obtain ⟨y40, hinv⟩ := hinv
              obtain ⟨y41, hinv⟩ := hinv
              obtain ⟨y42, hinv⟩ := hinv
              obtain ⟨y43, hinv⟩ := hinv
              obtain ⟨y44, hinv⟩ := hinv
              obtain ⟨y45, hinv⟩ := hinv
              obtain ⟨y46, hinv⟩ := hinv
              obtain ⟨y47, hinv⟩ := hinv
              obtain ⟨y48, hinv⟩ := hinv
              obtain ⟨y49, hinv⟩ := hinv
              obtain ⟨y50, hinv⟩ := hinv
              obtain ⟨y51, hinv⟩ := hinv
              obtain ⟨y52, hinv⟩ := hinv
              obtain ⟨y53, hinv⟩ := hinv
              obtain ⟨y54, hinv⟩ := hinv
              obtain ⟨y55, hinv⟩ := hinv
              obtain ⟨y56, hinv⟩ := hinv
              obtain ⟨y57, hinv⟩ := hinv
              obtain ⟨y58, hinv⟩ := hinv
              obtain ⟨y59, hinv⟩ := hinv
              obtain ⟨y60, hinv⟩ := hinv
              obtain ⟨y61, hinv⟩ := hinv
              obtain ⟨y62, hinv⟩ := hinv
              obtain ⟨y63, hinv⟩ := hinv
              obtain ⟨y64, hinv⟩ := hinv
              obtain ⟨y65, hinv⟩ := hinv
              obtain ⟨y66, hinv⟩ := hinv
              obtain ⟨y67, hinv⟩ := hinv
              obtain ⟨y68, hinv⟩ := hinv
              obtain ⟨y69, hinv⟩ := hinv
              obtain ⟨y70, hinv⟩ := hinv
              obtain ⟨y71, hinv⟩ := hinv
              obtain ⟨y72, hinv⟩ := hinv
              obtain ⟨y73, hinv⟩ := hinv
              obtain ⟨y74, hinv⟩ := hinv
              obtain ⟨y75, hinv⟩ := hinv
              obtain ⟨y76, hinv⟩ := hinv
              obtain ⟨y77, hinv⟩ := hinv
              obtain ⟨y78, hinv⟩ := hinv
              obtain ⟨y79, hinv⟩ := hinv
              obtain ⟨y80, hinv⟩ := hinv
              obtain ⟨y81, hinv⟩ := hinv
              obtain ⟨y82, hinv⟩ := hinv
              obtain ⟨y83, hinv⟩ := hinv
              obtain ⟨y84, hinv⟩ := hinv
              obtain ⟨y85, hinv⟩ := hinv
              obtain ⟨y86, hinv⟩ := hinv
              obtain ⟨y87, hinv⟩ := hinv
              obtain ⟨y88, hinv⟩ := hinv
              obtain ⟨y89, hinv⟩ := hinv
              obtain ⟨y90, hinv⟩ := hinv
              obtain ⟨y91, hinv⟩ := hinv
              obtain ⟨y92, hinv⟩ := hinv
              obtain ⟨y93, hinv⟩ := hinv
              obtain ⟨y94, hinv⟩ := hinv
              obtain ⟨y95, hinv⟩ := hinv
              obtain ⟨y96, hinv⟩ := hinv
              obtain ⟨y97, hinv⟩ := hinv
              obtain ⟨y98, hinv⟩ := hinv
              obtain ⟨y99, hinv⟩ := hinv
              obtain ⟨y100, hinv⟩ := hinv
              obtain ⟨y101, hinv⟩ := hinv
              obtain ⟨y102, hinv⟩ := hinv
              obtain ⟨y103, hinv⟩ := hinv
              obtain ⟨y104, hinv⟩ := hinv
              obtain ⟨y105, hinv⟩ := hinv
              obtain ⟨y106, hinv⟩ := hinv
              obtain ⟨y107, hinv⟩ := hinv
              obtain ⟨y108, hinv⟩ := hinv
              obtain ⟨y109, hinv⟩ := hinv
              obtain ⟨y110, hinv⟩ := hinv
              obtain ⟨y111, hinv⟩ := hinv
              obtain ⟨y112, hinv⟩ := hinv
              obtain ⟨y113, hinv⟩ := hinv
              obtain ⟨y114, hinv⟩ := hinv
              obtain ⟨y115, hinv⟩ := hinv
              obtain ⟨y116, hinv⟩ := hinv
              obtain ⟨y117, hinv⟩ := hinv
              obtain ⟨y118, hinv⟩ := hinv
              obtain ⟨y119, hinv⟩ := hinv
              obtain ⟨y120, hinv⟩ := hinv
              obtain ⟨y121, hinv⟩ := hinv
              obtain ⟨y122, hinv⟩ := hinv
              obtain ⟨y123, hinv⟩ := hinv
              obtain ⟨y124, hinv⟩ := hinv
              obtain ⟨y125, hinv⟩ := hinv
              obtain ⟨y126, hinv⟩ := hinv
              obtain ⟨y127, hinv⟩ := hinv
              obtain ⟨y128, hinv⟩ := hinv
              obtain ⟨y129, hinv⟩ := hinv
              obtain ⟨y130, hinv⟩ := hinv
              obtain ⟨y131, hinv⟩ := hinv
              obtain ⟨y132, hinv⟩ := hinv
              obtain ⟨y133, hinv⟩ := hinv
              obtain ⟨y134, hinv⟩ := hinv
              obtain ⟨y135, hinv⟩ := hinv
              obtain ⟨y136, hinv⟩ := hinv
              obtain ⟨y137, hinv⟩ := hinv
              obtain ⟨y138, hinv⟩ := hinv
              obtain ⟨y139, hinv⟩ := hinv
              obtain ⟨y140, hinv⟩ := hinv
              obtain ⟨y141, hinv⟩ := hinv
              obtain ⟨y142, hinv⟩ := hinv
              obtain ⟨y143, hinv⟩ := hinv
              obtain ⟨y144, hinv⟩ := hinv
              obtain ⟨y145, hinv⟩ := hinv
              obtain ⟨y146, hinv⟩ := hinv
              obtain ⟨y147, hinv⟩ := hinv
              obtain ⟨y148, hinv⟩ := hinv
              obtain ⟨y149, hinv⟩ := hinv
              obtain ⟨y150, hinv⟩ := hinv
              obtain ⟨y151, hinv⟩ := hinv
              obtain ⟨y152, hinv⟩ := hinv
              obtain ⟨y153, hinv⟩ := hinv
              obtain ⟨y154, hinv⟩ := hinv
              obtain ⟨y155, hinv⟩ := hinv
              obtain ⟨y156, hinv⟩ := hinv
              obtain ⟨y157, hinv⟩ := hinv
              obtain ⟨y158, hinv⟩ := hinv
              obtain ⟨y159, hinv⟩ := hinv
              obtain ⟨HN, HKQ, BK, HO, HB, GW, HL, ha⟩ := hinv
              subst ha
              have hcz0 : w'.cell? ⟨gb, 0, none⟩ = some (.int .u8 x.f0) := (blk_cell BK.out 0).trans rfl
              have hcz1 : w'.cell? ⟨gb, 1, none⟩ = some (.string x.f1) := (blk_cell BK.out 1).trans rfl
              have hcz2 : w'.cell? ⟨gb, 2, none⟩ = some (.int .i64 x.f2) := (blk_cell BK.out 2).trans rfl
              have hcz3 : w'.cell? ⟨gb, 3, none⟩ = some (.int .i64 x.f3) := (blk_cell BK.out 3).trans rfl
              go_wp2_with (first | ((with_reducible refine gate_builtin (b := .append) (xs := #[.tmp 155, .tmp 157]) rfl ?_); at_builtin; refine Kd.R_append k40 (w0 := w) w.heap.size rfl (.tmp 155) (.tmp 157) 22 40 (.agg #[(.int .u8 0), (.string ⟨#[]⟩), (.int .i64 0), (.int .i64 0)]) 40 rfl Tryd.underlying22 info40 rfl (by decide) (by omega) v2 x2 x [.int .u8 x.f0, .string x.f1, .int .i64 x.f2, .int .i64 x.f3] (fun _ => True) (fun _ => False) rfl (by first | (go_simp; done) | (go_simp; rfl)) ?aP (fun _ hk => hk.elim) ?aF ?aO ?aB ?aS ?aL ?_; (case aP => exact k40_mkM _ _ _ x); (case aB => exact HB.out); (case aF => exact (fun _ _ => trivial)); (case aO => exact Kd.R_mono HO.out (fun _ _ => trivial)); (case aS => exact HB.out.size); (case aL => have := HL.out; omega); intro v3 w3 ho hb hg hat; clear HO HB hat hg; have HO := Aside0.mk ho; have HB := Aside0.mk hb; clear ho hb))
              (try simp only [Exit.noGoto_normal, Exit.inBlock, Exit.then])
              (try go_wp2)
              go_roundg kq
              case measure => have := HKQ.out; omega
              case rel => exact ⟨x2 ++ [x], en, rfl, HN, ⟨by have := HKQ.out; have := HK1.out; omega⟩, HO, HB⟩
            · intro J' hJ' hB
              go_upto_region 8 with (first | ((with_reducible refine gate_dst (N := 7) rfl ?_); refine box_event ?hg (N := 7) ?hd (cs := #[.int .u8 0, .string (⟨#[]⟩ : ByteArray), .int .i64 0, .int .i64 0]) (t := 40) ?hr ?_; (case hd => rfl); (case hg => rfl); (case hr => first | (go_simp; done) | (go_simp; rfl)); intro gb hg w1 hbox hb; have n0 := Aside0.mk (Kd.R_below (Kd.R_mono (ok' := fun k => k ≠ gb) (Kd.R_bound (by (with_reducible repeat (first | apply Kd.R_alloc | apply Kd.R_drewN | apply Kd.R_drew)); exact HO.out)) (fun k hk e_ => by rw [hg] at e_; exact absurd hk.2.2.1 (by rw [e_]; exact Nat.lt_irrefl _))) hb); have n1 := Aside0.mk (below_step (by repeat (first | (with_reducible first | exact HB.out | apply below_alloc | apply pw_below_drewN | apply below_drew1) | exact HB.out)) hb); have n2 := Aside0.mk hbox; have n3 := Aside0.mk ((by rw [hg]; exact (below_size (by repeat (first | (with_reducible first | exact HB.out | apply below_alloc | apply pw_below_drewN | apply below_drew1) | exact HB.out)))) : w.heap.size ≤ gb); clear HO HB; have HO := n0; have HB := n1; have BK := n2; have GW := n3; clear n0 n1 n2 n3; clear hb hbox hg; have hcz0 : w1.cell? ⟨gb, 0, none⟩ = some (.int .u8 0) := (blk_cell BK.out 0).trans rfl; have hcz1 : w1.cell? ⟨gb, 1, none⟩ = some (.string (⟨#[]⟩ : ByteArray)) := (blk_cell BK.out 1).trans rfl; have hcz2 : w1.cell? ⟨gb, 2, none⟩ = some (.int .i64 0) := (blk_cell BK.out 2).trans rfl; have hcz3 : w1.cell? ⟨gb, 3, none⟩ = some (.int .i64 0) := (blk_cell BK.out 3).trans rfl; have hfz0 := blk_frozen BK.out 0; have hfz1 := blk_frozen BK.out 1; have hfz2 := blk_frozen BK.out 2; have hfz3 := blk_frozen BK.out 3))
              clear H
              obtain ⟨w2, hw2⟩ : ∃ w2 : World, w2 = ((((w1.setCell ⟨gb, 0, none⟩ (.int .u8 0)).setCell ⟨gb, 1, none⟩ (.string ⟨#[]⟩)).setCell ⟨gb, 2, none⟩ (.int .i64 0)).setCell ⟨gb, 3, none⟩ (.int .i64 x5)) := ⟨_, rfl⟩
              have BK2 : w2.heap[gb]? = some (.cells #[.int .u8 0, .string ⟨#[]⟩, .int .i64 0, .int .i64 x5] 40 (0, 0)) := by rw [hw2]; exact blk_set (blk_set (blk_set (blk_set BK.out 0 _) 1 _) 2 _) 3 _
              have HB2 : Below w.heap.size w w2 := by rw [hw2]; exact below_set (below_set (below_set (below_set HB.out GW.out) GW.out) GW.out) GW.out
              have HO2 : Kd.R k40 40 w2 w.heap.size (fun k => k ≠ gb) u2 x2 := by rw [hw2]; exact (Kd.R_far (p := ⟨gb, 3, none⟩) (Kd.R_far (p := ⟨gb, 2, none⟩) (Kd.R_far (p := ⟨gb, 1, none⟩) (Kd.R_far (p := ⟨gb, 0, none⟩) HO.out (fun _ h => h) _) (fun _ h => h) _) (fun _ h => h) _) (fun _ h => h) _)
              rw [← hw2]
              clear hw2 hcz0 hcz1 hcz2 hcz3 hfz0 hfz1 hfz2 hfz3 HO HB BK
              have BK := Aside0.mk BK2
              have HB := Aside0.mk HB2
              have HO := Aside0.mk HO2
              clear BK2 HB2 HO2 w1
              have hcz0 : w2.cell? ⟨gb, 0, none⟩ = some (.int .u8 0) := (blk_cell BK.out 0).trans rfl
              have hcz1 : w2.cell? ⟨gb, 1, none⟩ = some (.string (⟨#[]⟩ : ByteArray)) := (blk_cell BK.out 1).trans rfl
              have hcz2 : w2.cell? ⟨gb, 2, none⟩ = some (.int .i64 0) := (blk_cell BK.out 2).trans rfl
              have hcz3 : w2.cell? ⟨gb, 3, none⟩ = some (.int .i64 x5) := (blk_cell BK.out 3).trans rfl
              have hfz0 := blk_frozen BK.out 0
              have hfz1 := blk_frozen BK.out 1
              have hfz2 := blk_frozen BK.out 2
              have hfz3 := blk_frozen BK.out 3
              have HX := Aside0.mk (⟨of_eq_true p5, of_eq_true q5⟩ : 0 ≤ x5 ∧ x5 < (a0.size : Int))
              have he1 : wrap64 (x5 + 1) = x5 + 1 := by have := HX.out; have := hsz.out; unfold wrap64; omega
              have HE := Aside0.mk he1
              clear he1
              have A := AS.out
              clear AS
              unfold token_All.one at A
              by_cases c32 : bt a0 x5 = 32
              · rw [if_pos c32] at A
                have c32b0 : ((bt a0 x5) == 32) = true := beq_iff_eq.mpr c32
                have c32b1 : ((bt a0 x5) != 32) = false := bne_eq_false_iff_eq.mpr c32
                clear c32
                obtain rfl := Option.some.inj A
                clear A
                go_wp2
                (try simp only [jump_exit, Exit.inBlock, Exit.then, ↓reduceIte])
                (try go_wp2)
                go_roundg k1
                case measure => omega
                case rel => exact ⟨x2, wrap64 (x5 + 1), (by first | rfl | (simp; done) | (simp [*]; done)), HH, ⟨by have := HK1.out; omega⟩, ⟨Kd.R_mono (by (with_reducible repeat (first | apply Kd.R_alloc | apply Kd.R_drewN | apply Kd.R_drew)); exact HO.out) (fun _ _ => trivial)⟩, ⟨by repeat (first | (with_reducible first | exact HB.out | apply below_alloc | apply pw_below_drewN | apply below_drew1 | refine below_set ?_ GW.out) | exact HB.out)⟩⟩
              rw [if_neg c32] at A
              have c32b0 : ((bt a0 x5) == 32) = false := beq_eq_false_iff_ne.mpr c32
              have c32b1 : ((bt a0 x5) != 32) = true := bne_iff_ne.mpr c32
              clear c32
              by_cases c10 : bt a0 x5 = 10
              · rw [if_pos c10] at A
                have c10b0 : ((bt a0 x5) == 10) = true := beq_iff_eq.mpr c10
                have c10b1 : ((bt a0 x5) != 10) = false := bne_eq_false_iff_eq.mpr c10
                clear c10
                obtain rfl := Option.some.inj A
                clear A
                go_wp2
                (try simp only [jump_exit, Exit.inBlock, Exit.then, ↓reduceIte])
                (try go_wp2)
                go_roundg k1
                case measure => omega
                case rel => exact ⟨x2, wrap64 (x5 + 1), (by first | rfl | (simp; done) | (simp [*]; done)), HH, ⟨by have := HK1.out; omega⟩, ⟨Kd.R_mono (by (with_reducible repeat (first | apply Kd.R_alloc | apply Kd.R_drewN | apply Kd.R_drew)); exact HO.out) (fun _ _ => trivial)⟩, ⟨by repeat (first | (with_reducible first | exact HB.out | apply below_alloc | apply pw_below_drewN | apply below_drew1 | refine below_set ?_ GW.out) | exact HB.out)⟩⟩
              rw [if_neg c10] at A
              have c10b0 : ((bt a0 x5) == 10) = false := beq_eq_false_iff_ne.mpr c10
              have c10b1 : ((bt a0 x5) != 10) = true := bne_iff_ne.mpr c10
              clear c10
              by_cases c35 : bt a0 x5 = 35
              · rw [if_pos c35] at A
                have c35b0 : ((bt a0 x5) == 35) = true := beq_iff_eq.mpr c35
                have c35b1 : ((bt a0 x5) != 35) = false := bne_eq_false_iff_eq.mpr c35
                clear c35
                obtain ⟨j, AR, e1⟩ := Option.bind_eq_some_iff.mp A
                clear A
                obtain rfl := Option.some.inj e1
                have AR := Aside0.mk AR
                go_wp2
                go_loopg [5] k1 (fun kq v5 w' => ∃ x : Int, v5 = .int .i64 x ∧ Aside0 (token_All.rem kq a0 x = some j) ∧ Aside0 (0 ≤ x) ∧ w2 = w')
                case atStart => exact ⟨x5, rfl, AR, ⟨HX.out.1⟩, rfl⟩
                case round =>
                  clear AR
                  obtain ⟨x, rfl, HA, HX0, rfl⟩ := hrel
                  cases gk with
                  | zero => exact absurd HA.out (by simp [token_All.rem])
                  | succ k2 =>
                    have H := HA.out
                    clear HA
                    rw [token_All.rem] at H
                    by_cases d1 : x < (a0.size : Int)
                    · rw [if_pos d1] at H
                      have d1b0 : decide (x < (a0.size : Int)) = true := decide_eq_true d1
                      have px := eq_true HX0.out
                      have qx := eq_true d1
                      have hx6 := bt_at a0 x
                      have HD := Aside0.mk d1
                      clear d1
                      by_cases d2 : bt a0 x = 10
                      · rw [if_pos d2] at H
                        have d2b0 : ((bt a0 x) == 10) = true := beq_iff_eq.mpr d2
                        have d2b1 : ((bt a0 x) != 10) = false := bne_eq_false_iff_eq.mpr d2
                        clear d2
                        obtain rfl := Option.some.inj H
                        clear H
                        go_wp2
                        (try simp only [jump_exit, Exit.inBlock, Exit.then, ↓reduceIte])
                        (try go_wp2)
                        go_roundg k1
                        case measure => omega
                        case rel => exact ⟨x2, _, (by first | rfl | (simp; done) | (simp [*]; done)), HH, ⟨by have := HK1.out; omega⟩, ⟨Kd.R_mono (by (with_reducible repeat (first | apply Kd.R_alloc | apply Kd.R_drewN | apply Kd.R_drew)); exact HO.out) (fun _ _ => trivial)⟩, ⟨by repeat (first | (with_reducible first | exact HB.out | apply below_alloc | apply pw_below_drewN | apply below_drew1 | refine below_set ?_ GW.out) | exact HB.out)⟩⟩
                      · rw [if_neg d2] at H
                        have d2b0 : ((bt a0 x) == 10) = false := beq_eq_false_iff_ne.mpr d2
                        have d2b1 : ((bt a0 x) != 10) = true := bne_iff_ne.mpr d2
                        clear d2
                        have H2 := Aside0.mk H
                        clear H
                        go_wp2
                        go_roundg k2
                        case measure => omega
                        case rel => exact ⟨wrap64 (x + 1), (by first | rfl | (simp; done) | (simp [*]; done)), H2, ⟨by have := HX0.out; have := HD.out; have := hsz.out; unfold wrap64; omega⟩, rfl⟩
                    · rw [if_neg d1] at H
                      have d1b0 : decide (x < (a0.size : Int)) = false := decide_eq_false d1
                      clear d1
                      obtain rfl := Option.some.inj H
                      clear H
                      go_wp2
                      (try simp only [jump_exit, Exit.inBlock, Exit.then, ↓reduceIte])
                      (try go_wp2)
                      go_roundg k1
                      case measure => omega
                      case rel => exact ⟨x2, _, (by first | rfl | (simp; done) | (simp [*]; done)), HH, ⟨by have := HK1.out; omega⟩, ⟨Kd.R_mono (by (with_reducible repeat (first | apply Kd.R_alloc | apply Kd.R_drewN | apply Kd.R_drew)); exact HO.out) (fun _ _ => trivial)⟩, ⟨by repeat (first | (with_reducible first | exact HB.out | apply below_alloc | apply pw_below_drewN | apply below_drew1 | refine below_set ?_ GW.out) | exact HB.out)⟩⟩
              rw [if_neg c35] at A
              have c35b0 : ((bt a0 x5) == 35) = false := beq_eq_false_iff_ne.mpr c35
              have c35b1 : ((bt a0 x5) != 35) = true := bne_iff_ne.mpr c35
              clear c35
              obtain ⟨bL, AL, A⟩ := Option.bind_eq_some_iff.mp A
              have AL := Aside0.mk AL
              by_cases cL : bL = true
              · subst cL
                rw [if_pos rfl] at A
                obtain ⟨j, AW, A⟩ := Option.bind_eq_some_iff.mp A
                have AW := Aside0.mk AW
                go_wp2_with (first | (go_at_call 41; (with_reducible refine (token_letter.calls (bt a0 x5) true _ AL.out).mono ?_); rintro e w' ⟨rfl, ⟨nd, rfl⟩⟩))
                go_loopg [8] k1 (fun kq v8 w' => ∃ x : Int, v8 = .int .i64 x ∧ Aside0 (token_All.wd kq a0 x = some j) ∧ Aside0 (x5 ≤ x ∧ x ≤ (a0.size : Int)) ∧ Drawn0 w2 w')
                case atStart => exact ⟨wrap64 (x5 + 1), rfl, AW, ⟨by have := HX.out; rw [HE.out]; omega⟩, ⟨⟨_, rfl⟩⟩⟩
                case round =>
                  clear AW
                  obtain ⟨x, rfl, HA, HX0, ⟨m1, rfl⟩⟩ := hrel
                  cases gk with
                  | zero => exact absurd HA.out (by simp [token_All.wd])
                  | succ k2 =>
                    have H := HA.out
                    clear HA
                    rw [token_All.wd] at H
                    by_cases d1 : x < (a0.size : Int)
                    · rw [if_pos d1] at H
                      have d1b0 : decide (x < (a0.size : Int)) = true := decide_eq_true d1
                      have px := eq_true (Int.le_trans HX.out.1 HX0.out.1)
                      have qx := eq_true d1
                      have hx6 := bt_at a0 x
                      have HD := Aside0.mk d1
                      clear d1
                      obtain ⟨bI, AI, H⟩ := Option.bind_eq_some_iff.mp H
                      have AI := Aside0.mk AI
                      by_cases dI : bI = true
                      · subst dI
                        rw [if_pos rfl] at H
                        have H2 := Aside0.mk H
                        clear H
                        go_wp2_with (first | (go_at_call 42; (with_reducible refine (token_inner.calls (bt a0 x) true _ AI.out).mono ?_); rintro e w' ⟨rfl, ⟨nd2, rfl⟩⟩))
                        go_roundg k2
                        case measure => omega
                        case rel => exact ⟨wrap64 (x + 1), (by first | rfl | (simp; done) | (simp [*]; done)), H2, ⟨by have := HX0.out; have := HD.out; have := HX.out; have := hsz.out; unfold wrap64; omega⟩, by repeat (first | exact Drawn0.refl _ | apply Drawn0.step)⟩
                      · replace dI := Bool.eq_false_iff.mpr dI
                        subst dI
                        rw [if_neg (by decide)] at H
                        obtain rfl := Option.some.inj H
                        clear H
                        by_cases c24 : wrap64 (x - x5) > 24
                        · rw [if_pos c24] at A
                          obtain rfl := Option.some.inj A
                          clear A
                          have c24b0 : decide (24 < wrap64 (x - x5)) = true := decide_eq_true c24
                          clear c24
                          have H := HH.out
                          clear HH
                          simp only [Option.some.injEq, Prod.mk.injEq] at H
                          obtain ⟨rfl, rfl, rfl⟩ := H
                          go_wp2_with (first | (go_at_call 42; (with_reducible refine (token_inner.calls (bt a0 x) false _ AI.out).mono ?_); rintro e w' ⟨rfl, ⟨nd2, rfl⟩⟩))
                          (try simp only [jump_ret, Exit.inBlock, Exit.then, Exit.noGoto_ret])
                          go_ret3
                          exact ⟨_, (by first | rfl | (simp; done) | (simp [*]; done)), Kd.R_nil _ _ _ _ _, by repeat (first | (with_reducible first | exact HB.out | apply below_alloc | apply pw_below_drewN | apply below_drew1 | refine below_set ?_ GW.out) | exact HB.out)⟩
                        · rw [if_neg c24] at A
                          have c24b0 : decide (24 < wrap64 (x - x5)) = false := decide_eq_false c24
                          clear c24
                          rw [if_pos HX0.out.2, if_pos HX0.out.1] at A
                          obtain rfl := Option.some.inj A
                          clear A
                          obtain ⟨HL, HN⟩ := ite_some HH.out
                          have HN := Aside0.mk HN
                          have HL := Aside0.mk HL
                          clear HH
                          have s1 := eq_true HX.out.1
                          have s2 := eq_true HX0.out.1
                          have s3 := eq_true HX0.out.2
                          have s1b : decide (0 ≤ x5) = true := decide_eq_true HX.out.1
                          have s2b : decide (x5 ≤ x) = true := decide_eq_true HX0.out.1
                          have s3b : decide (x ≤ (a0.size : Int)) = true := decide_eq_true HX0.out.2
                          go_wp2_with (first | (go_at_call 42; (with_reducible refine (token_inner.calls (bt a0 x) false _ AI.out).mono ?_); rintro e w' ⟨rfl, ⟨nd2, rfl⟩⟩))
                          go_region
                          all_goals go_wp2
                          all_goals (go_step3; (try simp only [Exit.inBlock, Exit.then]); refine jump_goto (hJ' _ _ ?_); (repeat apply Exists.intro); refine ⟨HN, ⟨Nat.le_refl _⟩, ?_, ?_, ?_, GW, HL, rfl⟩)
                          all_goals first | exact ⟨by (with_reducible repeat (first | refine blk_drewN ?_ _ | refine blk_drew ?_ | refine blk_alloc ?_ _)); exact (blk_set (blk_set BK.out 0 (.int .u8 1)) 1 (.string _))⟩ | exact ⟨by (with_reducible repeat (first | apply Kd.R_alloc | apply Kd.R_drewN | apply Kd.R_drew)); exact (Kd.R_far (p := ⟨gb, 1, none⟩) (Kd.R_far (p := ⟨gb, 0, none⟩) HO.out (fun _ h => h) _) (fun _ h => h) _)⟩ | exact ⟨by repeat (first | (with_reducible first | exact HB.out | apply below_alloc | apply pw_below_drewN | apply below_drew1 | refine below_set ?_ GW.out) | exact HB.out)⟩
                    · rw [if_neg d1] at H
                      have d1b0 : decide (x < (a0.size : Int)) = false := decide_eq_false d1
                      clear d1
                      obtain rfl := Option.some.inj H
                      clear H
                      by_cases c24 : wrap64 (x - x5) > 24
                      · rw [if_pos c24] at A
                        obtain rfl := Option.some.inj A
                        clear A
                        have c24b0 : decide (24 < wrap64 (x - x5)) = true := decide_eq_true c24
                        clear c24
                        have H := HH.out
                        clear HH
                        simp only [Option.some.injEq, Prod.mk.injEq] at H
                        obtain ⟨rfl, rfl, rfl⟩ := H
                        go_wp2_with (first | fail)
                        (try simp only [jump_ret, Exit.inBlock, Exit.then, Exit.noGoto_ret])
                        go_ret3
                        exact ⟨_, (by first | rfl | (simp; done) | (simp [*]; done)), Kd.R_nil _ _ _ _ _, by repeat (first | (with_reducible first | exact HB.out | apply below_alloc | apply pw_below_drewN | apply below_drew1 | refine below_set ?_ GW.out) | exact HB.out)⟩
                      · rw [if_neg c24] at A
                        have c24b0 : decide (24 < wrap64 (x - x5)) = false := decide_eq_false c24
                        clear c24
                        rw [if_pos HX0.out.2, if_pos HX0.out.1] at A
                        obtain rfl := Option.some.inj A
                        clear A
                        obtain ⟨HL, HN⟩ := ite_some HH.out
                        have HN := Aside0.mk HN
                        have HL := Aside0.mk HL
                        clear HH
                        have s1 := eq_true HX.out.1
                        have s2 := eq_true HX0.out.1
                        have s3 := eq_true HX0.out.2
                        have s1b : decide (0 ≤ x5) = true := decide_eq_true HX.out.1
                        have s2b : decide (x5 ≤ x) = true := decide_eq_true HX0.out.1
                        have s3b : decide (x ≤ (a0.size : Int)) = true := decide_eq_true HX0.out.2
                        go_wp2_with (first | fail)
                        go_region
                        all_goals go_wp2
                        all_goals (go_step3; (try simp only [Exit.inBlock, Exit.then]); refine jump_goto (hJ' _ _ ?_); (repeat apply Exists.intro); refine ⟨HN, ⟨Nat.le_refl _⟩, ?_, ?_, ?_, GW, HL, rfl⟩)
                        all_goals first | exact ⟨by (with_reducible repeat (first | refine blk_drewN ?_ _ | refine blk_drew ?_ | refine blk_alloc ?_ _)); exact (blk_set (blk_set BK.out 0 (.int .u8 1)) 1 (.string _))⟩ | exact ⟨by (with_reducible repeat (first | apply Kd.R_alloc | apply Kd.R_drewN | apply Kd.R_drew)); exact (Kd.R_far (p := ⟨gb, 1, none⟩) (Kd.R_far (p := ⟨gb, 0, none⟩) HO.out (fun _ h => h) _) (fun _ h => h) _)⟩ | exact ⟨by repeat (first | (with_reducible first | exact HB.out | apply below_alloc | apply pw_below_drewN | apply below_drew1 | refine below_set ?_ GW.out) | exact HB.out)⟩
              replace cL := Bool.eq_false_iff.mpr cL
              subst cL
              rw [if_neg (by decide)] at A
              obtain ⟨bD, AD, A⟩ := Option.bind_eq_some_iff.mp A
              have AD := Aside0.mk AD
              by_cases cD : bD = true
              · subst cD
                rw [if_pos rfl] at A
                obtain ⟨⟨q1, q2, q3, q4⟩, AN, A⟩ := Option.bind_eq_some_iff.mp A
                have AN := Aside0.mk AN
                dsimp only at A
                by_cases cq : q4 = 0
                · rw [if_pos cq] at A
                  have cqb0 : (q4 == 0) = true := beq_iff_eq.mpr cq
                  have cqb1 : (q4 != 0) = false := bne_eq_false_iff_eq.mpr cq
                  clear cq
                  obtain rfl := Option.some.inj A
                  clear A
                  obtain ⟨HL, HN⟩ := ite_some HH.out
                  have HN := Aside0.mk HN
                  have HL := Aside0.mk HL
                  clear HH
                  go_wp2_with (first | (go_at_call 41; (with_reducible refine (token_letter.calls (bt a0 x5) false _ AL.out).mono ?_); rintro e w' ⟨rfl, ⟨nd, rfl⟩⟩) | (go_at_call 43; (with_reducible refine (token_digit.calls (bt a0 x5) true _ AD.out).mono ?_); rintro e w' ⟨rfl, ⟨nd3, rfl⟩⟩) | (go_at_call 44; (with_reducible refine (token_number.calls k1 a0 x5 q1 q2 q3 q4 _ AN.out).mono ?_); rintro e w' ⟨rfl, ⟨nd4, rfl⟩⟩))
                  all_goals (go_step3; (try simp only [Exit.inBlock, Exit.then]); refine jump_goto (hJ' _ _ ?_); (repeat apply Exists.intro); refine ⟨HN, ⟨Nat.le_refl _⟩, ?_, ?_, ?_, GW, HL, rfl⟩)
                  all_goals first | exact ⟨by (with_reducible repeat (first | refine blk_drewN ?_ _ | refine blk_drew ?_ | refine blk_alloc ?_ _)); exact (blk_set (blk_set BK.out 0 (.int .u8 2)) 2 (.int .i64 q1))⟩ | exact ⟨by (with_reducible repeat (first | apply Kd.R_alloc | apply Kd.R_drewN | apply Kd.R_drew)); exact (Kd.R_far (p := ⟨gb, 2, none⟩) (Kd.R_far (p := ⟨gb, 0, none⟩) HO.out (fun _ h => h) _) (fun _ h => h) _)⟩ | exact ⟨by repeat (first | (with_reducible first | exact HB.out | apply below_alloc | apply pw_below_drewN | apply below_drew1 | refine below_set ?_ GW.out) | exact HB.out)⟩
                · rw [if_neg cq] at A
                  have cqb0 : (q4 == 0) = false := beq_eq_false_iff_ne.mpr cq
                  have cqb1 : (q4 != 0) = true := bne_iff_ne.mpr cq
                  clear cq
                  obtain rfl := Option.some.inj A
                  clear A
                  have H := HH.out
                  clear HH
                  simp only [Option.some.injEq, Prod.mk.injEq] at H
                  obtain ⟨rfl, rfl, rfl⟩ := H
                  go_wp2_with (first | (go_at_call 41; (with_reducible refine (token_letter.calls (bt a0 x5) false _ AL.out).mono ?_); rintro e w' ⟨rfl, ⟨nd, rfl⟩⟩) | (go_at_call 43; (with_reducible refine (token_digit.calls (bt a0 x5) true _ AD.out).mono ?_); rintro e w' ⟨rfl, ⟨nd3, rfl⟩⟩) | (go_at_call 44; (with_reducible refine (token_number.calls k1 a0 x5 q1 q2 q3 q4 _ AN.out).mono ?_); rintro e w' ⟨rfl, ⟨nd4, rfl⟩⟩))
                  (try simp only [jump_ret, Exit.inBlock, Exit.then, Exit.noGoto_ret])
                  go_ret3
                  exact ⟨_, (by first | rfl | (simp; done) | (simp [*]; done)), Kd.R_nil _ _ _ _ _, by repeat (first | (with_reducible first | exact HB.out | apply below_alloc | apply pw_below_drewN | apply below_drew1 | refine below_set ?_ GW.out) | exact HB.out)⟩
              replace cD := Bool.eq_false_iff.mpr cD
              subst cD
              rw [if_neg (by decide)] at A
              by_cases c34 : bt a0 x5 = 34
              · rw [if_pos c34] at A
                have c34b0 : ((bt a0 x5) == 34) = true := beq_iff_eq.mpr c34
                have c34b1 : ((bt a0 x5) != 34) = false := bne_eq_false_iff_eq.mpr c34
                clear c34
                obtain ⟨⟨q1, q2, q3, q4⟩, AT, A⟩ := Option.bind_eq_some_iff.mp A
                have AT := Aside0.mk AT
                dsimp only at A
                by_cases cq : q4 = 0
                · rw [if_pos cq] at A
                  have cqb0 : (q4 == 0) = true := beq_iff_eq.mpr cq
                  have cqb1 : (q4 != 0) = false := bne_eq_false_iff_eq.mpr cq
                  clear cq
                  obtain rfl := Option.some.inj A
                  clear A
                  obtain ⟨HL, HN⟩ := ite_some HH.out
                  have HN := Aside0.mk HN
                  have HL := Aside0.mk HL
                  clear HH
                  go_wp2_with (first | (go_at_call 41; (with_reducible refine (token_letter.calls (bt a0 x5) false _ AL.out).mono ?_); rintro e w' ⟨rfl, ⟨nd, rfl⟩⟩) | (go_at_call 43; (with_reducible refine (token_digit.calls (bt a0 x5) false _ AD.out).mono ?_); rintro e w' ⟨rfl, ⟨nd3, rfl⟩⟩) | (go_at_call 45; (with_reducible refine (token_text.calls k1 a0 x5 q1 q2 q3 q4 _ AT.out).mono ?_); rintro e wT ⟨rfl, hb⟩; have n0 := Aside0.mk (Kd.R_below (by (with_reducible repeat (first | apply Kd.R_alloc | apply Kd.R_drewN | apply Kd.R_drew)); exact Kd.R_far (p := ⟨gb, 0, none⟩) HO.out (fun _ h => h) _) hb); have n1 := Aside0.mk (below_step (by repeat (first | (with_reducible first | exact HB.out | apply below_alloc | apply pw_below_drewN | apply below_drew1 | refine below_set ?_ GW.out) | exact HB.out)) hb); have n2 := Aside0.mk (blk_below (g := gb) (o := .cells #[.int .u8 3, .string ⟨#[]⟩, .int .i64 0, .int .i64 x5] 40 (0, 0)) (by (with_reducible repeat (first | refine blk_drewN ?_ _ | refine blk_drew ?_ | refine blk_alloc ?_ _)); exact blk_set BK.out 0 _) hb); clear HO HB BK hb; have HO := n0; have HB := n1; have BK := n2; clear n0 n1 n2; have hct1 : wT.cell? ⟨gb, 1, none⟩ = some (.string (⟨#[]⟩ : ByteArray)) := (blk_cell BK.out 1).trans rfl; have hft1 := blk_frozen BK.out 1))
                  all_goals (go_step3; (try simp only [Exit.inBlock, Exit.then]); refine jump_goto (hJ' _ _ ?_); (repeat apply Exists.intro); refine ⟨HN, ⟨Nat.le_refl _⟩, ?_, ?_, ?_, GW, HL, rfl⟩)
                  all_goals first | exact ⟨by (with_reducible repeat (first | refine blk_drewN ?_ _ | refine blk_drew ?_ | refine blk_alloc ?_ _)); exact (blk_set BK.out 1 (.string q1))⟩ | exact ⟨by (with_reducible repeat (first | apply Kd.R_alloc | apply Kd.R_drewN | apply Kd.R_drew)); exact (Kd.R_far (p := ⟨gb, 1, none⟩) HO.out (fun _ h => h) _)⟩ | exact ⟨by repeat (first | (with_reducible first | exact HB.out | apply below_alloc | apply pw_below_drewN | apply below_drew1 | refine below_set ?_ GW.out) | exact HB.out)⟩
                · rw [if_neg cq] at A
                  have cqb0 : (q4 == 0) = false := beq_eq_false_iff_ne.mpr cq
                  have cqb1 : (q4 != 0) = true := bne_iff_ne.mpr cq
                  clear cq
                  obtain rfl := Option.some.inj A
                  clear A
                  have H := HH.out
                  clear HH
                  simp only [Option.some.injEq, Prod.mk.injEq] at H
                  obtain ⟨rfl, rfl, rfl⟩ := H
                  go_wp2_with (first | (go_at_call 41; (with_reducible refine (token_letter.calls (bt a0 x5) false _ AL.out).mono ?_); rintro e w' ⟨rfl, ⟨nd, rfl⟩⟩) | (go_at_call 43; (with_reducible refine (token_digit.calls (bt a0 x5) false _ AD.out).mono ?_); rintro e w' ⟨rfl, ⟨nd3, rfl⟩⟩) | (go_at_call 45; (with_reducible refine (token_text.calls k1 a0 x5 q1 q2 q3 q4 _ AT.out).mono ?_); rintro e wT ⟨rfl, hb⟩; have n0 := Aside0.mk (Kd.R_below (by (with_reducible repeat (first | apply Kd.R_alloc | apply Kd.R_drewN | apply Kd.R_drew)); exact Kd.R_far (p := ⟨gb, 0, none⟩) HO.out (fun _ h => h) _) hb); have n1 := Aside0.mk (below_step (by repeat (first | (with_reducible first | exact HB.out | apply below_alloc | apply pw_below_drewN | apply below_drew1 | refine below_set ?_ GW.out) | exact HB.out)) hb); have n2 := Aside0.mk (blk_below (g := gb) (o := .cells #[.int .u8 3, .string ⟨#[]⟩, .int .i64 0, .int .i64 x5] 40 (0, 0)) (by (with_reducible repeat (first | refine blk_drewN ?_ _ | refine blk_drew ?_ | refine blk_alloc ?_ _)); exact blk_set BK.out 0 _) hb); clear HO HB BK hb; have HO := n0; have HB := n1; have BK := n2; clear n0 n1 n2; have hct1 : wT.cell? ⟨gb, 1, none⟩ = some (.string (⟨#[]⟩ : ByteArray)) := (blk_cell BK.out 1).trans rfl; have hft1 := blk_frozen BK.out 1))
                  (try simp only [jump_ret, Exit.inBlock, Exit.then, Exit.noGoto_ret])
                  go_ret3
                  exact ⟨_, (by first | rfl | (simp; done) | (simp [*]; done)), Kd.R_nil _ _ _ _ _, by repeat (first | (with_reducible first | exact HB.out | apply below_alloc | apply pw_below_drewN | apply below_drew1 | refine below_set ?_ GW.out) | exact HB.out)⟩
              rw [if_neg c34] at A
              have c34b0 : ((bt a0 x5) == 34) = false := beq_eq_false_iff_ne.mpr c34
              have c34b1 : ((bt a0 x5) != 34) = true := bne_iff_ne.mpr c34
              clear c34
              by_cases c33 : bt a0 x5 = 33
              · rw [if_pos c33] at A
                have c33b0 : ((bt a0 x5) == 33) = true := beq_iff_eq.mpr c33
                have c33b1 : ((bt a0 x5) != 33) = false := bne_eq_false_iff_eq.mpr c33
                clear c33
                by_cases cZ : wrap64 (x5 + 1) = (a0.size : Int)
                · rw [if_pos cZ] at A
                  have cZb0 : (wrap64 (x5 + 1) == (a0.size : Int)) = true := beq_iff_eq.mpr cZ
                  have cZb1 : (wrap64 (x5 + 1) != (a0.size : Int)) = false := bne_eq_false_iff_eq.mpr cZ
                  clear cZ
                  obtain rfl := Option.some.inj A
                  clear A
                  have H := HH.out
                  clear HH
                  simp only [Option.some.injEq, Prod.mk.injEq] at H
                  obtain ⟨rfl, rfl, rfl⟩ := H
                  go_wp2_with (first | (go_at_call 41; (with_reducible refine (token_letter.calls (bt a0 x5) false _ AL.out).mono ?_); rintro e w' ⟨rfl, ⟨nd, rfl⟩⟩) | (go_at_call 43; (with_reducible refine (token_digit.calls (bt a0 x5) false _ AD.out).mono ?_); rintro e w' ⟨rfl, ⟨nd3, rfl⟩⟩))
                  (try simp only [jump_ret, Exit.inBlock, Exit.then, Exit.noGoto_ret])
                  go_ret3
                  exact ⟨_, (by first | rfl | (simp; done) | (simp [*]; done)), Kd.R_nil _ _ _ _ _, by repeat (first | (with_reducible first | exact HB.out | apply below_alloc | apply pw_below_drewN | apply below_drew1 | refine below_set ?_ GW.out) | exact HB.out)⟩
                rw [if_neg cZ] at A
                have cZb0 : (wrap64 (x5 + 1) == (a0.size : Int)) = false := beq_eq_false_iff_ne.mpr cZ
                have cZb1 : (wrap64 (x5 + 1) != (a0.size : Int)) = true := bne_iff_ne.mpr cZ
                have HQ := Aside0.mk (show wrap64 (x5 + 1) < (a0.size : Int) by have := HX.out; rw [HE.out] at cZ ⊢; omega)
                clear cZ
                rw [if_pos HQ.out] at A
                have cEb : decide (wrap64 (x5 + 1) < (a0.size : Int)) = true := decide_eq_true HQ.out
                have p6 : (0 ≤ wrap64 (x5 + 1)) = True := eq_true (by have := HX.out; rw [HE.out]; omega)
                have q6 : (wrap64 (x5 + 1) < (a0.size : Int)) = True := eq_true HQ.out
                have hx7 := bt_at a0 (wrap64 (x5 + 1))
                by_cases c61 : bt a0 (wrap64 (x5 + 1)) = 61
                · rw [if_pos c61] at A
                  have c61b0 : ((bt a0 (wrap64 (x5 + 1))) == 61) = true := beq_iff_eq.mpr c61
                  have c61b1 : ((bt a0 (wrap64 (x5 + 1))) != 61) = false := bne_eq_false_iff_eq.mpr c61
                  have H61 := Aside0.mk c61
                  clear c61
                  unfold token_All.sg at A
                  obtain ⟨t, AT, A⟩ := Option.bind_eq_some_iff.mp A
                  have AT := Aside0.mk AT
                  by_cases ct : t < 0
                  · rw [if_pos ct] at A
                    have ctb : decide (t < 0) = true := decide_eq_true ct
                    clear ct
                    obtain rfl := Option.some.inj A
                    clear A
                    have H := HH.out
                    clear HH
                    simp only [Option.some.injEq, Prod.mk.injEq] at H
                    obtain ⟨rfl, rfl, rfl⟩ := H
                    go_wp2_with (first | (go_at_call 41; (with_reducible refine (token_letter.calls (bt a0 x5) false _ AL.out).mono ?_); rintro e w' ⟨rfl, ⟨nd, rfl⟩⟩) | (go_at_call 43; (with_reducible refine (token_digit.calls (bt a0 x5) false _ AD.out).mono ?_); rintro e w' ⟨rfl, ⟨nd3, rfl⟩⟩) | (go_at_call 46; (with_reducible refine (strings_IndexByte.calls (⟨#[40, 41, 123, 125, 91, 93, 44, 61, 60, 43, 45, 42, 47, 37, 33]⟩ : ByteArray) (bt a0 x5) t _ AT.out).mono ?_); rintro e w' ⟨rfl, ⟨nd5, rfl⟩⟩))
                    (try simp only [jump_ret, Exit.inBlock, Exit.then, Exit.noGoto_ret])
                    go_ret3
                    exact ⟨_, (by first | rfl | (simp; done) | (simp [*]; done)), Kd.R_nil _ _ _ _ _, by repeat (first | (with_reducible first | exact HB.out | apply below_alloc | apply pw_below_drewN | apply below_drew1 | refine below_set ?_ GW.out) | exact HB.out)⟩
                  rw [if_neg ct] at A
                  have ctb : decide (t < 0) = false := decide_eq_false ct
                  clear ct
                  obtain ⟨u, AU, A⟩ := Option.bind_eq_some_iff.mp A
                  have AU := Aside0.mk AU
                  by_cases cu : 0 ≤ u
                  · rw [if_pos cu] at A
                    have cub : decide (0 ≤ u) = true := decide_eq_true cu
                    clear cu
                    rw [if_pos HQ.out, if_pos H61.out] at A
                    obtain rfl := Option.some.inj A
                    clear A
                    obtain ⟨HL, HN⟩ := ite_some HH.out
                    have HN := Aside0.mk HN
                    have HL := Aside0.mk HL
                    clear HH
                    have s1 := eq_true HX.out.1
                    have s1b : decide (0 ≤ x5) = true := decide_eq_true HX.out.1
                    have S2 : x5 ≤ wrap64 (wrap64 (x5 + 1) + 1) ∧ wrap64 (wrap64 (x5 + 1) + 1) ≤ (a0.size : Int) := by have := HX.out; have := hsz.out; have := HQ.out; rw [HE.out] at this; rw [HE.out]; unfold wrap64; omega
                    have s2 := eq_true S2.1
                    have s3 := eq_true S2.2
                    have s2b : decide (x5 ≤ wrap64 (wrap64 (x5 + 1) + 1)) = true := decide_eq_true S2.1
                    have s3b : decide (wrap64 (wrap64 (x5 + 1) + 1) ≤ (a0.size : Int)) = true := decide_eq_true S2.2
                    clear S2
                    go_wp2_with (first | (go_at_call 41; (with_reducible refine (token_letter.calls (bt a0 x5) false _ AL.out).mono ?_); rintro e w' ⟨rfl, ⟨nd, rfl⟩⟩) | (go_at_call 43; (with_reducible refine (token_digit.calls (bt a0 x5) false _ AD.out).mono ?_); rintro e w' ⟨rfl, ⟨nd3, rfl⟩⟩) | (go_at_call 46; (with_reducible refine (strings_IndexByte.calls (⟨#[40, 41, 123, 125, 91, 93, 44, 61, 60, 43, 45, 42, 47, 37, 33]⟩ : ByteArray) (bt a0 x5) t _ AT.out).mono ?_); rintro e w' ⟨rfl, ⟨nd5, rfl⟩⟩) | (go_at_call 46; (with_reducible refine (strings_IndexByte.calls (⟨#[61, 60, 33]⟩ : ByteArray) (bt a0 x5) u _ AU.out).mono ?_); rintro e w' ⟨rfl, ⟨nd5, rfl⟩⟩))
                    go_region
                    all_goals go_wp2
                    all_goals (go_step3; go_step; go_step; refine hB _ _ ?_; (repeat apply Exists.intro); refine ⟨HN, ⟨Nat.le_refl _⟩, ?_, ?_, ?_, GW, HL, rfl⟩)
                    all_goals first | exact ⟨by (with_reducible repeat (first | refine blk_drewN ?_ _ | refine blk_drew ?_ | refine blk_alloc ?_ _)); exact (blk_set (blk_set BK.out 0 (.int .u8 4)) 1 (.string _))⟩ | exact ⟨by (with_reducible repeat (first | apply Kd.R_alloc | apply Kd.R_drewN | apply Kd.R_drew)); exact (Kd.R_far (p := ⟨gb, 1, none⟩) (Kd.R_far (p := ⟨gb, 0, none⟩) HO.out (fun _ h => h) _) (fun _ h => h) _)⟩ | exact ⟨by repeat (first | (with_reducible first | exact HB.out | apply below_alloc | apply pw_below_drewN | apply below_drew1 | refine below_set ?_ GW.out) | exact HB.out)⟩
                  · rw [if_neg cu] at A
                    have cub : decide (0 ≤ u) = false := decide_eq_false cu
                    clear cu
                    obtain rfl := Option.some.inj A
                    clear A
                    obtain ⟨HL, HN⟩ := ite_some HH.out
                    have HN := Aside0.mk HN
                    have HL := Aside0.mk HL
                    clear HH
                    have s1 := eq_true HX.out.1
                    have s1b : decide (0 ≤ x5) = true := decide_eq_true HX.out.1
                    have S2 : x5 ≤ wrap64 (x5 + 1) ∧ wrap64 (x5 + 1) ≤ (a0.size : Int) := by have := HX.out; rw [HE.out]; omega
                    have s2 := eq_true S2.1
                    have s3 := eq_true S2.2
                    have s2b : decide (x5 ≤ wrap64 (x5 + 1)) = true := decide_eq_true S2.1
                    have s3b : decide (wrap64 (x5 + 1) ≤ (a0.size : Int)) = true := decide_eq_true S2.2
                    clear S2
                    go_wp2_with (first | (go_at_call 41; (with_reducible refine (token_letter.calls (bt a0 x5) false _ AL.out).mono ?_); rintro e w' ⟨rfl, ⟨nd, rfl⟩⟩) | (go_at_call 43; (with_reducible refine (token_digit.calls (bt a0 x5) false _ AD.out).mono ?_); rintro e w' ⟨rfl, ⟨nd3, rfl⟩⟩) | (go_at_call 46; (with_reducible refine (strings_IndexByte.calls (⟨#[40, 41, 123, 125, 91, 93, 44, 61, 60, 43, 45, 42, 47, 37, 33]⟩ : ByteArray) (bt a0 x5) t _ AT.out).mono ?_); rintro e w' ⟨rfl, ⟨nd5, rfl⟩⟩) | (go_at_call 46; (with_reducible refine (strings_IndexByte.calls (⟨#[61, 60, 33]⟩ : ByteArray) (bt a0 x5) u _ AU.out).mono ?_); rintro e w' ⟨rfl, ⟨nd5, rfl⟩⟩))
                    go_region
                    all_goals go_wp2
                    all_goals (go_step3; go_step; go_step; refine hB _ _ ?_; (repeat apply Exists.intro); refine ⟨HN, ⟨Nat.le_refl _⟩, ?_, ?_, ?_, GW, HL, rfl⟩)
                    all_goals first | exact ⟨by (with_reducible repeat (first | refine blk_drewN ?_ _ | refine blk_drew ?_ | refine blk_alloc ?_ _)); exact (blk_set (blk_set BK.out 0 (.int .u8 4)) 1 (.string _))⟩ | exact ⟨by (with_reducible repeat (first | apply Kd.R_alloc | apply Kd.R_drewN | apply Kd.R_drew)); exact (Kd.R_far (p := ⟨gb, 1, none⟩) (Kd.R_far (p := ⟨gb, 0, none⟩) HO.out (fun _ h => h) _) (fun _ h => h) _)⟩ | exact ⟨by repeat (first | (with_reducible first | exact HB.out | apply below_alloc | apply pw_below_drewN | apply below_drew1 | refine below_set ?_ GW.out) | exact HB.out)⟩
                · rw [if_neg c61] at A
                  have c61b0 : ((bt a0 (wrap64 (x5 + 1))) == 61) = false := beq_eq_false_iff_ne.mpr c61
                  have c61b1 : ((bt a0 (wrap64 (x5 + 1))) != 61) = true := bne_iff_ne.mpr c61
                  clear c61
                  obtain rfl := Option.some.inj A
                  clear A
                  have H := HH.out
                  clear HH
                  simp only [Option.some.injEq, Prod.mk.injEq] at H
                  obtain ⟨rfl, rfl, rfl⟩ := H
                  go_wp2_with (first | (go_at_call 41; (with_reducible refine (token_letter.calls (bt a0 x5) false _ AL.out).mono ?_); rintro e w' ⟨rfl, ⟨nd, rfl⟩⟩) | (go_at_call 43; (with_reducible refine (token_digit.calls (bt a0 x5) false _ AD.out).mono ?_); rintro e w' ⟨rfl, ⟨nd3, rfl⟩⟩))
                  (try simp only [jump_ret, Exit.inBlock, Exit.then, Exit.noGoto_ret])
                  go_ret3
                  exact ⟨_, (by first | rfl | (simp; done) | (simp [*]; done)), Kd.R_nil _ _ _ _ _, by repeat (first | (with_reducible first | exact HB.out | apply below_alloc | apply pw_below_drewN | apply below_drew1 | refine below_set ?_ GW.out) | exact HB.out)⟩
              rw [if_neg c33] at A
              have c33b0 : ((bt a0 x5) == 33) = false := beq_eq_false_iff_ne.mpr c33
              have c33b1 : ((bt a0 x5) != 33) = true := bne_iff_ne.mpr c33
              clear c33
              unfold token_All.sg at A
              obtain ⟨t, AT, A⟩ := Option.bind_eq_some_iff.mp A
              have AT := Aside0.mk AT
              by_cases ct : t < 0
              · rw [if_pos ct] at A
                have ctb : decide (t < 0) = true := decide_eq_true ct
                clear ct
                obtain rfl := Option.some.inj A
                clear A
                have H := HH.out
                clear HH
                simp only [Option.some.injEq, Prod.mk.injEq] at H
                obtain ⟨rfl, rfl, rfl⟩ := H
                go_wp2_with (first | (go_at_call 41; (with_reducible refine (token_letter.calls (bt a0 x5) false _ AL.out).mono ?_); rintro e w' ⟨rfl, ⟨nd, rfl⟩⟩) | (go_at_call 43; (with_reducible refine (token_digit.calls (bt a0 x5) false _ AD.out).mono ?_); rintro e w' ⟨rfl, ⟨nd3, rfl⟩⟩) | (go_at_call 46; (with_reducible refine (strings_IndexByte.calls (⟨#[40, 41, 123, 125, 91, 93, 44, 61, 60, 43, 45, 42, 47, 37, 33]⟩ : ByteArray) (bt a0 x5) t _ AT.out).mono ?_); rintro e w' ⟨rfl, ⟨nd5, rfl⟩⟩))
                (try simp only [jump_ret, Exit.inBlock, Exit.then, Exit.noGoto_ret])
                go_ret3
                exact ⟨_, (by first | rfl | (simp; done) | (simp [*]; done)), Kd.R_nil _ _ _ _ _, by repeat (first | (with_reducible first | exact HB.out | apply below_alloc | apply pw_below_drewN | apply below_drew1 | refine below_set ?_ GW.out) | exact HB.out)⟩
              rw [if_neg ct] at A
              have ctb : decide (t < 0) = false := decide_eq_false ct
              clear ct
              obtain ⟨u, AU, A⟩ := Option.bind_eq_some_iff.mp A
              have AU := Aside0.mk AU
              by_cases cu : 0 ≤ u
              · rw [if_pos cu] at A
                have cub : decide (0 ≤ u) = true := decide_eq_true cu
                clear cu
                by_cases cE : wrap64 (x5 + 1) < (a0.size : Int)
                · rw [if_pos cE] at A
                  have cEb : decide (wrap64 (x5 + 1) < (a0.size : Int)) = true := decide_eq_true cE
                  have HQ := Aside0.mk cE
                  clear cE
                  have p6 : (0 ≤ wrap64 (x5 + 1)) = True := eq_true (by have := HX.out; rw [HE.out]; omega)
                  have q6 : (wrap64 (x5 + 1) < (a0.size : Int)) = True := eq_true HQ.out
                  have hx7 := bt_at a0 (wrap64 (x5 + 1))
                  by_cases c61 : bt a0 (wrap64 (x5 + 1)) = 61
                  · rw [if_pos c61] at A
                    have c61b0 : ((bt a0 (wrap64 (x5 + 1))) == 61) = true := beq_iff_eq.mpr c61
                    have c61b1 : ((bt a0 (wrap64 (x5 + 1))) != 61) = false := bne_eq_false_iff_eq.mpr c61
                    clear c61
                    obtain rfl := Option.some.inj A
                    clear A
                    obtain ⟨HL, HN⟩ := ite_some HH.out
                    have HN := Aside0.mk HN
                    have HL := Aside0.mk HL
                    clear HH
                    have s1 := eq_true HX.out.1
                    have s1b : decide (0 ≤ x5) = true := decide_eq_true HX.out.1
                    have S2 : x5 ≤ wrap64 (wrap64 (x5 + 1) + 1) ∧ wrap64 (wrap64 (x5 + 1) + 1) ≤ (a0.size : Int) := by have := HX.out; have := hsz.out; have := HQ.out; rw [HE.out] at this; rw [HE.out]; unfold wrap64; omega
                    have s2 := eq_true S2.1
                    have s3 := eq_true S2.2
                    have s2b : decide (x5 ≤ wrap64 (wrap64 (x5 + 1) + 1)) = true := decide_eq_true S2.1
                    have s3b : decide (wrap64 (wrap64 (x5 + 1) + 1) ≤ (a0.size : Int)) = true := decide_eq_true S2.2
                    clear S2
                    go_wp2_with (first | (go_at_call 41; (with_reducible refine (token_letter.calls (bt a0 x5) false _ AL.out).mono ?_); rintro e w' ⟨rfl, ⟨nd, rfl⟩⟩) | (go_at_call 43; (with_reducible refine (token_digit.calls (bt a0 x5) false _ AD.out).mono ?_); rintro e w' ⟨rfl, ⟨nd3, rfl⟩⟩) | (go_at_call 46; (with_reducible refine (strings_IndexByte.calls (⟨#[40, 41, 123, 125, 91, 93, 44, 61, 60, 43, 45, 42, 47, 37, 33]⟩ : ByteArray) (bt a0 x5) t _ AT.out).mono ?_); rintro e w' ⟨rfl, ⟨nd5, rfl⟩⟩) | (go_at_call 46; (with_reducible refine (strings_IndexByte.calls (⟨#[61, 60, 33]⟩ : ByteArray) (bt a0 x5) u _ AU.out).mono ?_); rintro e w' ⟨rfl, ⟨nd5, rfl⟩⟩))
                    go_region
                    all_goals go_wp2
                    all_goals (go_step3; go_step; go_step; refine hB _ _ ?_; (repeat apply Exists.intro); refine ⟨HN, ⟨Nat.le_refl _⟩, ?_, ?_, ?_, GW, HL, rfl⟩)
                    all_goals first | exact ⟨by (with_reducible repeat (first | refine blk_drewN ?_ _ | refine blk_drew ?_ | refine blk_alloc ?_ _)); exact (blk_set (blk_set BK.out 0 (.int .u8 4)) 1 (.string _))⟩ | exact ⟨by (with_reducible repeat (first | apply Kd.R_alloc | apply Kd.R_drewN | apply Kd.R_drew)); exact (Kd.R_far (p := ⟨gb, 1, none⟩) (Kd.R_far (p := ⟨gb, 0, none⟩) HO.out (fun _ h => h) _) (fun _ h => h) _)⟩ | exact ⟨by repeat (first | (with_reducible first | exact HB.out | apply below_alloc | apply pw_below_drewN | apply below_drew1 | refine below_set ?_ GW.out) | exact HB.out)⟩
                  · rw [if_neg c61] at A
                    have c61b0 : ((bt a0 (wrap64 (x5 + 1))) == 61) = false := beq_eq_false_iff_ne.mpr c61
                    have c61b1 : ((bt a0 (wrap64 (x5 + 1))) != 61) = true := bne_iff_ne.mpr c61
                    clear c61
                    obtain rfl := Option.some.inj A
                    clear A
                    obtain ⟨HL, HN⟩ := ite_some HH.out
                    have HN := Aside0.mk HN
                    have HL := Aside0.mk HL
                    clear HH
                    have s1 := eq_true HX.out.1
                    have s1b : decide (0 ≤ x5) = true := decide_eq_true HX.out.1
                    have S2 : x5 ≤ wrap64 (x5 + 1) ∧ wrap64 (x5 + 1) ≤ (a0.size : Int) := by have := HX.out; rw [HE.out]; omega
                    have s2 := eq_true S2.1
                    have s3 := eq_true S2.2
                    have s2b : decide (x5 ≤ wrap64 (x5 + 1)) = true := decide_eq_true S2.1
                    have s3b : decide (wrap64 (x5 + 1) ≤ (a0.size : Int)) = true := decide_eq_true S2.2
                    clear S2
                    go_wp2_with (first | (go_at_call 41; (with_reducible refine (token_letter.calls (bt a0 x5) false _ AL.out).mono ?_); rintro e w' ⟨rfl, ⟨nd, rfl⟩⟩) | (go_at_call 43; (with_reducible refine (token_digit.calls (bt a0 x5) false _ AD.out).mono ?_); rintro e w' ⟨rfl, ⟨nd3, rfl⟩⟩) | (go_at_call 46; (with_reducible refine (strings_IndexByte.calls (⟨#[40, 41, 123, 125, 91, 93, 44, 61, 60, 43, 45, 42, 47, 37, 33]⟩ : ByteArray) (bt a0 x5) t _ AT.out).mono ?_); rintro e w' ⟨rfl, ⟨nd5, rfl⟩⟩) | (go_at_call 46; (with_reducible refine (strings_IndexByte.calls (⟨#[61, 60, 33]⟩ : ByteArray) (bt a0 x5) u _ AU.out).mono ?_); rintro e w' ⟨rfl, ⟨nd5, rfl⟩⟩))
                    go_region
                    all_goals go_wp2
                    all_goals (go_step3; go_step; go_step; refine hB _ _ ?_; (repeat apply Exists.intro); refine ⟨HN, ⟨Nat.le_refl _⟩, ?_, ?_, ?_, GW, HL, rfl⟩)
                    all_goals first | exact ⟨by (with_reducible repeat (first | refine blk_drewN ?_ _ | refine blk_drew ?_ | refine blk_alloc ?_ _)); exact (blk_set (blk_set BK.out 0 (.int .u8 4)) 1 (.string _))⟩ | exact ⟨by (with_reducible repeat (first | apply Kd.R_alloc | apply Kd.R_drewN | apply Kd.R_drew)); exact (Kd.R_far (p := ⟨gb, 1, none⟩) (Kd.R_far (p := ⟨gb, 0, none⟩) HO.out (fun _ h => h) _) (fun _ h => h) _)⟩ | exact ⟨by repeat (first | (with_reducible first | exact HB.out | apply below_alloc | apply pw_below_drewN | apply below_drew1 | refine below_set ?_ GW.out) | exact HB.out)⟩
                · rw [if_neg cE] at A
                  have cEb : decide (wrap64 (x5 + 1) < (a0.size : Int)) = false := decide_eq_false cE
                  clear cE
                  obtain rfl := Option.some.inj A
                  clear A
                  obtain ⟨HL, HN⟩ := ite_some HH.out
                  have HN := Aside0.mk HN
                  have HL := Aside0.mk HL
                  clear HH
                  have s1 := eq_true HX.out.1
                  have s1b : decide (0 ≤ x5) = true := decide_eq_true HX.out.1
                  have S2 : x5 ≤ wrap64 (x5 + 1) ∧ wrap64 (x5 + 1) ≤ (a0.size : Int) := by have := HX.out; rw [HE.out]; omega
                  have s2 := eq_true S2.1
                  have s3 := eq_true S2.2
                  have s2b : decide (x5 ≤ wrap64 (x5 + 1)) = true := decide_eq_true S2.1
                  have s3b : decide (wrap64 (x5 + 1) ≤ (a0.size : Int)) = true := decide_eq_true S2.2
                  clear S2
                  go_wp2_with (first | (go_at_call 41; (with_reducible refine (token_letter.calls (bt a0 x5) false _ AL.out).mono ?_); rintro e w' ⟨rfl, ⟨nd, rfl⟩⟩) | (go_at_call 43; (with_reducible refine (token_digit.calls (bt a0 x5) false _ AD.out).mono ?_); rintro e w' ⟨rfl, ⟨nd3, rfl⟩⟩) | (go_at_call 46; (with_reducible refine (strings_IndexByte.calls (⟨#[40, 41, 123, 125, 91, 93, 44, 61, 60, 43, 45, 42, 47, 37, 33]⟩ : ByteArray) (bt a0 x5) t _ AT.out).mono ?_); rintro e w' ⟨rfl, ⟨nd5, rfl⟩⟩) | (go_at_call 46; (with_reducible refine (strings_IndexByte.calls (⟨#[61, 60, 33]⟩ : ByteArray) (bt a0 x5) u _ AU.out).mono ?_); rintro e w' ⟨rfl, ⟨nd5, rfl⟩⟩))
                  go_region
                  all_goals go_wp2
                  all_goals (go_step3; go_step; go_step; refine hB _ _ ?_; (repeat apply Exists.intro); refine ⟨HN, ⟨Nat.le_refl _⟩, ?_, ?_, ?_, GW, HL, rfl⟩)
                  all_goals first | exact ⟨by (with_reducible repeat (first | refine blk_drewN ?_ _ | refine blk_drew ?_ | refine blk_alloc ?_ _)); exact (blk_set (blk_set BK.out 0 (.int .u8 4)) 1 (.string _))⟩ | exact ⟨by (with_reducible repeat (first | apply Kd.R_alloc | apply Kd.R_drewN | apply Kd.R_drew)); exact (Kd.R_far (p := ⟨gb, 1, none⟩) (Kd.R_far (p := ⟨gb, 0, none⟩) HO.out (fun _ h => h) _) (fun _ h => h) _)⟩ | exact ⟨by repeat (first | (with_reducible first | exact HB.out | apply below_alloc | apply pw_below_drewN | apply below_drew1 | refine below_set ?_ GW.out) | exact HB.out)⟩
              · rw [if_neg cu] at A
                have cub : decide (0 ≤ u) = false := decide_eq_false cu
                clear cu
                obtain rfl := Option.some.inj A
                clear A
                obtain ⟨HL, HN⟩ := ite_some HH.out
                have HN := Aside0.mk HN
                have HL := Aside0.mk HL
                clear HH
                have s1 := eq_true HX.out.1
                have s1b : decide (0 ≤ x5) = true := decide_eq_true HX.out.1
                have S2 : x5 ≤ wrap64 (x5 + 1) ∧ wrap64 (x5 + 1) ≤ (a0.size : Int) := by have := HX.out; rw [HE.out]; omega
                have s2 := eq_true S2.1
                have s3 := eq_true S2.2
                have s2b : decide (x5 ≤ wrap64 (x5 + 1)) = true := decide_eq_true S2.1
                have s3b : decide (wrap64 (x5 + 1) ≤ (a0.size : Int)) = true := decide_eq_true S2.2
                clear S2
                go_wp2_with (first | (go_at_call 41; (with_reducible refine (token_letter.calls (bt a0 x5) false _ AL.out).mono ?_); rintro e w' ⟨rfl, ⟨nd, rfl⟩⟩) | (go_at_call 43; (with_reducible refine (token_digit.calls (bt a0 x5) false _ AD.out).mono ?_); rintro e w' ⟨rfl, ⟨nd3, rfl⟩⟩) | (go_at_call 46; (with_reducible refine (strings_IndexByte.calls (⟨#[40, 41, 123, 125, 91, 93, 44, 61, 60, 43, 45, 42, 47, 37, 33]⟩ : ByteArray) (bt a0 x5) t _ AT.out).mono ?_); rintro e w' ⟨rfl, ⟨nd5, rfl⟩⟩) | (go_at_call 46; (with_reducible refine (strings_IndexByte.calls (⟨#[61, 60, 33]⟩ : ByteArray) (bt a0 x5) u _ AU.out).mono ?_); rintro e w' ⟨rfl, ⟨nd5, rfl⟩⟩))
                go_region
                all_goals go_wp2
                all_goals (go_step3; go_step; go_step; refine hB _ _ ?_; (repeat apply Exists.intro); refine ⟨HN, ⟨Nat.le_refl _⟩, ?_, ?_, ?_, GW, HL, rfl⟩)
                all_goals first | exact ⟨by (with_reducible repeat (first | refine blk_drewN ?_ _ | refine blk_drew ?_ | refine blk_alloc ?_ _)); exact (blk_set (blk_set BK.out 0 (.int .u8 4)) 1 (.string _))⟩ | exact ⟨by (with_reducible repeat (first | apply Kd.R_alloc | apply Kd.R_drewN | apply Kd.R_drew)); exact (Kd.R_far (p := ⟨gb, 1, none⟩) (Kd.R_far (p := ⟨gb, 0, none⟩) HO.out (fun _ h => h) _) (fun _ h => h) _)⟩ | exact ⟨by repeat (first | (with_reducible first | exact HB.out | apply below_alloc | apply pw_below_drewN | apply below_drew1 | refine below_set ?_ GW.out) | exact HB.out)⟩
          · rw [if_neg c5] at H
            exact absurd H (by simp)
        · rw [if_neg c4] at H
          have c4b0 : decide (x5 < (a0.size : Int)) = false := decide_eq_false c4
          clear c4
          simp only [Option.some.injEq, Prod.mk.injEq] at H
          obtain ⟨rfl, rfl, rfl⟩ := H
          go_wp2
          (try rw [Exit.noGoto_ret])
          go_ret3
          exact ⟨_, rfl, by (with_reducible repeat (first | apply Kd.R_alloc | apply Kd.R_drewN | apply Kd.R_drew)); exact HO.out, by repeat (first | (with_reducible first | exact HB.out | apply below_alloc | apply pw_below_drewN | apply below_drew1) | exact HB.out)⟩
end Go.Proofs.YtlbchdalimngjaaDoor.P
namespace Go.Proofs.YtlbchdalimngjaaDoor.P
open Go.RowKit Go.Proofs.YtlbchdalimngjaaDoorW.PrintWords Go.Proofs.YtlbchdalimngjaaDoorW.PrintLast Go.Proofs.YtlbchdalimngjaaDoorW.PrintMore
attribute [local go_sem] max2_int min2_int max_two min_two max_three min_three max_four min_four
set_option linter.unusedVariables false
set_option linter.unusedSimpArgs false
def prompterlaw07_wakes.f (k : Nat)  : Option (Bool) := (token_All.f k (⟨#[108, 101, 116, 32, 120, 61, 49]⟩ : ByteArray)).bind fun bt118 => (if bt118.2.2 = 0 then (if bt118.2.1 = 0 then (if (bt118.1.length : Int) = 4 then (if 2 < (bt118.1.length : Int) then (if ((rd_T40 bt118.1 2).f1).toList = ([61] : List UInt8) then (if 3 < (bt118.1.length : Int) then (if ((rd_T40 bt118.1 3).f2) = 1 then (some (((rd_T40 bt118.1 3).f3) == 6)) else (some false)) else (none)) else (some false)) else (none)) else (some false)) else (some false)) else (some false))
theorem prompterlaw07_wakes.mono : ∀ k, LeO (prompterlaw07_wakes.f k ) (prompterlaw07_wakes.f (k + 1) ) := by
  intro  k
  unfold prompterlaw07_wakes.f
  repeat' first
      | (with_reducible exact token_All.mono _ _)
      | (with_reducible exact LeO.refl _)
      | (with_reducible exact LeO.none _)
      | (with_reducible refine LeO.ite ?_ ?_)
      | (with_reducible refine LeO.bind ?_ (fun _ => ?_))
      | exact token_All.mono _ _
      | exact LeO.none _
      | refine LeO.ite ?_ ?_
      | refine LeO.bind ?_ (fun _ => ?_)
set_option maxHeartbeats 8000000 in
set_option maxRecDepth 100000 in
theorem prompterlaw07_wakes.calls (k : Nat)  (r : Bool) (w : World) (h : prompterlaw07_wakes.f k  = some r) :
    Calls Tryd.prog 10 #[] w fun e w' => e = .returned (.bool r) ∧ Below w.heap.size w w' := by
  have HB := Aside0.mk (Below.refl w.heap.size w)
  have H : ((token_All.f k (⟨#[108, 101, 116, 32, 120, 61, 49]⟩ : ByteArray)).bind fun bt118 => (if bt118.2.2 = 0 then (if bt118.2.1 = 0 then (if (bt118.1.length : Int) = 4 then (if 2 < (bt118.1.length : Int) then (if ((rd_T40 bt118.1 2).f1).toList = ([61] : List UInt8) then (if 3 < (bt118.1.length : Int) then (if ((rd_T40 bt118.1 3).f2) = 1 then (some (((rd_T40 bt118.1 3).f3) == 6)) else (some false)) else (none)) else (some false)) else (none)) else (some false)) else (some false)) else (some false))) = some r := h
  clear h
  replace H := Option.bind_eq_some_iff.mp H
  obtain ⟨⟨t118, t119, t120⟩, A10, H⟩ := H
  replace H : (if t120 = 0 then (if t119 = 0 then (if (t118.length : Int) = 4 then (if 2 < (t118.length : Int) then (if ((rd_T40 t118 2).f1).toList = ([61] : List UInt8) then (if 3 < (t118.length : Int) then (if ((rd_T40 t118 3).f2) = 1 then (some (((rd_T40 t118 3).f3) == 6)) else (some false)) else (none)) else (some false)) else (none)) else (some false)) else (some false)) else (some false)) = some r := H
  have A1 := Aside0.mk A10
  clear A10
  by_cases c2 : t120 = 0
  · rw [if_pos c2] at H
    have c2b0 : (t120 == 0) = true := beq_iff_eq.mpr c2
    have c2b1 : (t120 != 0) = false := bne_eq_false_iff_eq.mpr c2
    clear c2
    by_cases c3 : t119 = 0
    · rw [if_pos c3] at H
      have c3b0 : (t119 == 0) = true := beq_iff_eq.mpr c3
      have c3b1 : (t119 != 0) = false := bne_eq_false_iff_eq.mpr c3
      clear c3
      by_cases c4 : (t118.length : Int) = 4
      · rw [if_pos c4] at H
        have c4b0 : ((t118.length : Int) == 4) = true := beq_iff_eq.mpr c4
        have c4b1 : ((t118.length : Int) != 4) = false := bne_eq_false_iff_eq.mpr c4
        clear c4
        by_cases c5 : 2 < (t118.length : Int)
        · rw [if_pos c5] at H
          have c5b0 : decide (2 < (t118.length : Int)) = true := decide_eq_true c5
          have c5b1 : decide (2 < t118.length) = true := decide_eq_true (by omega)
          clear c5
          by_cases c6 : ((rd_T40 t118 2).f1).toList = ([61] : List UInt8)
          · rw [if_pos c6] at H
            have c6b0 : (((rd_T40 t118 2).f1).toList == ([61] : List UInt8)) = true := beq_iff_eq.mpr c6
            have c6b1 : (((rd_T40 t118 2).f1).toList != ([61] : List UInt8)) = false := bne_eq_false_iff_eq.mpr c6
            clear c6
            by_cases c7 : 3 < (t118.length : Int)
            · rw [if_pos c7] at H
              have c7b0 : decide (3 < (t118.length : Int)) = true := decide_eq_true c7
              have c7b1 : decide (3 < t118.length) = true := decide_eq_true (by omega)
              clear c7
              by_cases c8 : ((rd_T40 t118 3).f2) = 1
              · rw [if_pos c8] at H
                have c8b0 : (((rd_T40 t118 3).f2) == 1) = true := beq_iff_eq.mpr c8
                have c8b1 : (((rd_T40 t118 3).f2) != 1) = false := bne_eq_false_iff_eq.mpr c8
                clear c8
                obtain rfl := Option.some.inj H
                go_enter Tryd.func10, Tryd.ntmps10
                go_wp2_with (first | ((with_reducible refine gate_callee (f := 14) rfl ?_); refine goesL_ (some 5) rfl rfl Tryd.func14 (by kernel_rfl) rfl #[.string (⟨#[108, 101, 116, 32, 120, 61, 49]⟩ : ByteArray)] rfl (by (try simp only [List.map_toArray, List.map_cons, List.map_nil]); first | done | rfl | (simp only [List.length_drop, List.length_take]; rfl)) ?_; (with_reducible refine (token_All.calls k (⟨#[108, 101, 116, 32, 120, 61, 49]⟩ : ByteArray) t118 t119 t120 _ A1.out).mono ?_); rintro e w9 ⟨v121, rfl, ho0, hb⟩; refine ⟨_, rfl, ?_⟩; have n0_ := Aside0.mk (Kd.R_lower ho0 (below_size (by repeat (first | (with_reducible first | exact HB.out | apply below_alloc | apply pw_below_drewN | apply below_drew1) | exact HB.out)))); have n1_ := Aside0.mk (below_step (by repeat (first | (with_reducible first | exact HB.out | apply below_alloc | apply pw_below_drewN | apply below_drew1) | exact HB.out)) hb); clear HB; have HO122 := n0_; have HB := n1_; clear n0_ n1_; (try clear hb); (try clear hb2); (try clear hk); (try clear hi); (try clear ho0); obtain ⟨Ao10, co10, eo10⟩ := Kd.R_slice HO122.out; subst eo10; have p123 : 0 ≤ (2 : Int) := (by omega); have q123 : 2 < (t118.length : Int) := of_decide_eq_true (by first | (with_reducible assumption) | assumption); obtain ⟨ad123, e123, hx123_0, hx123_1, hx123_2, hx123_3⟩ := at_T40 (Kd.R_reads' HO122.out).2.2 2 p123 q123; cases e123; (try simp only [show (2 : Int).toNat = 2 from rfl, Nat.reduceMul, Nat.reduceEqDiff, Go.Addr.add, ↓reduceIte] at hx123_0); (try simp only [show (2 : Int).toNat = 2 from rfl, Nat.reduceMul, Nat.reduceEqDiff, Go.Addr.add, ↓reduceIte] at hx123_1); (try simp only [show (2 : Int).toNat = 2 from rfl, Nat.reduceMul, Nat.reduceEqDiff, Go.Addr.add, ↓reduceIte] at hx123_2); (try simp only [show (2 : Int).toNat = 2 from rfl, Nat.reduceMul, Nat.reduceEqDiff, Go.Addr.add, ↓reduceIte] at hx123_3); have qi123 : (2 < t118.length) = True := eq_true (by omega); (try rw [show ((2 : Int)).toNat = 2 from rfl] at hx123_0); (try rw [show 2 * 4 = 8 from rfl] at hx123_0); (try rw [show ((2 : Int)).toNat = 2 from rfl] at hx123_1); (try rw [show 2 * 4 = 8 from rfl] at hx123_1); (try rw [show ((2 : Int)).toNat = 2 from rfl] at hx123_2); (try rw [show 2 * 4 = 8 from rfl] at hx123_2); (try rw [show ((2 : Int)).toNat = 2 from rfl] at hx123_3); (try rw [show 2 * 4 = 8 from rfl] at hx123_3); replace p123 := eq_true p123; replace q123 := eq_true q123; have p124 : 0 ≤ (3 : Int) := (by omega); have q124 : 3 < (t118.length : Int) := of_decide_eq_true (by first | (with_reducible assumption) | assumption); obtain ⟨ad124, e124, hx124_0, hx124_1, hx124_2, hx124_3⟩ := at_T40 (Kd.R_reads' HO122.out).2.2 3 p124 q124; obtain rfl : ad123 = ad124 := (by injection e124); (try simp only [show (3 : Int).toNat = 3 from rfl, Nat.reduceMul, Nat.reduceEqDiff, Go.Addr.add, ↓reduceIte] at hx124_0); (try simp only [show (3 : Int).toNat = 3 from rfl, Nat.reduceMul, Nat.reduceEqDiff, Go.Addr.add, ↓reduceIte] at hx124_1); (try simp only [show (3 : Int).toNat = 3 from rfl, Nat.reduceMul, Nat.reduceEqDiff, Go.Addr.add, ↓reduceIte] at hx124_2); (try simp only [show (3 : Int).toNat = 3 from rfl, Nat.reduceMul, Nat.reduceEqDiff, Go.Addr.add, ↓reduceIte] at hx124_3); have qi124 : (3 < t118.length) = True := eq_true (by omega); (try rw [show ((3 : Int)).toNat = 3 from rfl] at hx124_0); (try rw [show 3 * 4 = 12 from rfl] at hx124_0); (try rw [show ((3 : Int)).toNat = 3 from rfl] at hx124_1); (try rw [show 3 * 4 = 12 from rfl] at hx124_1); (try rw [show ((3 : Int)).toNat = 3 from rfl] at hx124_2); (try rw [show 3 * 4 = 12 from rfl] at hx124_2); (try rw [show ((3 : Int)).toNat = 3 from rfl] at hx124_3); (try rw [show 3 * 4 = 12 from rfl] at hx124_3); replace p124 := eq_true p124; replace q124 := eq_true q124; have p125 : 0 ≤ (3 : Int) := (by omega); have q125 : 3 < (t118.length : Int) := of_decide_eq_true (by first | (with_reducible assumption) | assumption); obtain ⟨ad125, e125, hx125_0, hx125_1, hx125_2, hx125_3⟩ := at_T40 (Kd.R_reads' HO122.out).2.2 3 p125 q125; obtain rfl : ad123 = ad125 := (by injection e125); (try simp only [show (3 : Int).toNat = 3 from rfl, Nat.reduceMul, Nat.reduceEqDiff, Go.Addr.add, ↓reduceIte] at hx125_0); (try simp only [show (3 : Int).toNat = 3 from rfl, Nat.reduceMul, Nat.reduceEqDiff, Go.Addr.add, ↓reduceIte] at hx125_1); (try simp only [show (3 : Int).toNat = 3 from rfl, Nat.reduceMul, Nat.reduceEqDiff, Go.Addr.add, ↓reduceIte] at hx125_2); (try simp only [show (3 : Int).toNat = 3 from rfl, Nat.reduceMul, Nat.reduceEqDiff, Go.Addr.add, ↓reduceIte] at hx125_3); have qi125 : (3 < t118.length) = True := eq_true (by omega); (try rw [show ((3 : Int)).toNat = 3 from rfl] at hx125_0); (try rw [show 3 * 4 = 12 from rfl] at hx125_0); (try rw [show ((3 : Int)).toNat = 3 from rfl] at hx125_1); (try rw [show 3 * 4 = 12 from rfl] at hx125_1); (try rw [show ((3 : Int)).toNat = 3 from rfl] at hx125_2); (try rw [show 3 * 4 = 12 from rfl] at hx125_2); (try rw [show ((3 : Int)).toNat = 3 from rfl] at hx125_3); (try rw [show 3 * 4 = 12 from rfl] at hx125_3); replace p125 := eq_true p125; replace q125 := eq_true q125))
                go_ret
                exact ⟨by first | rfl | (simp [errW_none, errW_some] <;> rfl) | (simp [*, errW_none, errW_some] <;> rfl), by repeat (first | (with_reducible first | exact HB.out | apply below_alloc | apply pw_below_drewN | apply below_drew1) | exact HB.out)⟩
              · rw [if_neg c8] at H
                have c8b0 : (((rd_T40 t118 3).f2) == 1) = false := beq_eq_false_iff_ne.mpr c8
                have c8b1 : (((rd_T40 t118 3).f2) != 1) = true := bne_iff_ne.mpr c8
                obtain rfl := Option.some.inj H
                go_enter Tryd.func10, Tryd.ntmps10
                go_wp2_with (first | ((with_reducible refine gate_callee (f := 14) rfl ?_); refine goesL_ (some 5) rfl rfl Tryd.func14 (by kernel_rfl) rfl #[.string (⟨#[108, 101, 116, 32, 120, 61, 49]⟩ : ByteArray)] rfl (by (try simp only [List.map_toArray, List.map_cons, List.map_nil]); first | done | rfl | (simp only [List.length_drop, List.length_take]; rfl)) ?_; (with_reducible refine (token_All.calls k (⟨#[108, 101, 116, 32, 120, 61, 49]⟩ : ByteArray) t118 t119 t120 _ A1.out).mono ?_); rintro e w11 ⟨v121, rfl, ho0, hb⟩; refine ⟨_, rfl, ?_⟩; have n0_ := Aside0.mk (Kd.R_lower ho0 (below_size (by repeat (first | (with_reducible first | exact HB.out | apply below_alloc | apply pw_below_drewN | apply below_drew1) | exact HB.out)))); have n1_ := Aside0.mk (below_step (by repeat (first | (with_reducible first | exact HB.out | apply below_alloc | apply pw_below_drewN | apply below_drew1) | exact HB.out)) hb); clear HB; have HO122 := n0_; have HB := n1_; clear n0_ n1_; (try clear hb); (try clear hb2); (try clear hk); (try clear hi); (try clear ho0); obtain ⟨Ao12, co12, eo12⟩ := Kd.R_slice HO122.out; subst eo12; have p123 : 0 ≤ (2 : Int) := (by omega); have q123 : 2 < (t118.length : Int) := of_decide_eq_true (by first | (with_reducible assumption) | assumption); obtain ⟨ad123, e123, hx123_0, hx123_1, hx123_2, hx123_3⟩ := at_T40 (Kd.R_reads' HO122.out).2.2 2 p123 q123; cases e123; (try simp only [show (2 : Int).toNat = 2 from rfl, Nat.reduceMul, Nat.reduceEqDiff, Go.Addr.add, ↓reduceIte] at hx123_0); (try simp only [show (2 : Int).toNat = 2 from rfl, Nat.reduceMul, Nat.reduceEqDiff, Go.Addr.add, ↓reduceIte] at hx123_1); (try simp only [show (2 : Int).toNat = 2 from rfl, Nat.reduceMul, Nat.reduceEqDiff, Go.Addr.add, ↓reduceIte] at hx123_2); (try simp only [show (2 : Int).toNat = 2 from rfl, Nat.reduceMul, Nat.reduceEqDiff, Go.Addr.add, ↓reduceIte] at hx123_3); have qi123 : (2 < t118.length) = True := eq_true (by omega); (try rw [show ((2 : Int)).toNat = 2 from rfl] at hx123_0); (try rw [show 2 * 4 = 8 from rfl] at hx123_0); (try rw [show ((2 : Int)).toNat = 2 from rfl] at hx123_1); (try rw [show 2 * 4 = 8 from rfl] at hx123_1); (try rw [show ((2 : Int)).toNat = 2 from rfl] at hx123_2); (try rw [show 2 * 4 = 8 from rfl] at hx123_2); (try rw [show ((2 : Int)).toNat = 2 from rfl] at hx123_3); (try rw [show 2 * 4 = 8 from rfl] at hx123_3); replace p123 := eq_true p123; replace q123 := eq_true q123; have p124 : 0 ≤ (3 : Int) := (by omega); have q124 : 3 < (t118.length : Int) := of_decide_eq_true (by first | (with_reducible assumption) | assumption); obtain ⟨ad124, e124, hx124_0, hx124_1, hx124_2, hx124_3⟩ := at_T40 (Kd.R_reads' HO122.out).2.2 3 p124 q124; obtain rfl : ad123 = ad124 := (by injection e124); (try simp only [show (3 : Int).toNat = 3 from rfl, Nat.reduceMul, Nat.reduceEqDiff, Go.Addr.add, ↓reduceIte] at hx124_0); (try simp only [show (3 : Int).toNat = 3 from rfl, Nat.reduceMul, Nat.reduceEqDiff, Go.Addr.add, ↓reduceIte] at hx124_1); (try simp only [show (3 : Int).toNat = 3 from rfl, Nat.reduceMul, Nat.reduceEqDiff, Go.Addr.add, ↓reduceIte] at hx124_2); (try simp only [show (3 : Int).toNat = 3 from rfl, Nat.reduceMul, Nat.reduceEqDiff, Go.Addr.add, ↓reduceIte] at hx124_3); have qi124 : (3 < t118.length) = True := eq_true (by omega); (try rw [show ((3 : Int)).toNat = 3 from rfl] at hx124_0); (try rw [show 3 * 4 = 12 from rfl] at hx124_0); (try rw [show ((3 : Int)).toNat = 3 from rfl] at hx124_1); (try rw [show 3 * 4 = 12 from rfl] at hx124_1); (try rw [show ((3 : Int)).toNat = 3 from rfl] at hx124_2); (try rw [show 3 * 4 = 12 from rfl] at hx124_2); (try rw [show ((3 : Int)).toNat = 3 from rfl] at hx124_3); (try rw [show 3 * 4 = 12 from rfl] at hx124_3); replace p124 := eq_true p124; replace q124 := eq_true q124))
                go_ret
                exact ⟨by first | rfl | (simp [errW_none, errW_some] <;> rfl) | (simp [*, errW_none, errW_some] <;> rfl), by repeat (first | (with_reducible first | exact HB.out | apply below_alloc | apply pw_below_drewN | apply below_drew1) | exact HB.out)⟩
            · rw [if_neg c7] at H
              exact absurd H (by simp)
          · rw [if_neg c6] at H
            have c6b0 : (((rd_T40 t118 2).f1).toList == ([61] : List UInt8)) = false := beq_eq_false_iff_ne.mpr c6
            have c6b1 : (((rd_T40 t118 2).f1).toList != ([61] : List UInt8)) = true := bne_iff_ne.mpr c6
            obtain rfl := Option.some.inj H
            go_enter Tryd.func10, Tryd.ntmps10
            go_wp2_with (first | ((with_reducible refine gate_callee (f := 14) rfl ?_); refine goesL_ (some 5) rfl rfl Tryd.func14 (by kernel_rfl) rfl #[.string (⟨#[108, 101, 116, 32, 120, 61, 49]⟩ : ByteArray)] rfl (by (try simp only [List.map_toArray, List.map_cons, List.map_nil]); first | done | rfl | (simp only [List.length_drop, List.length_take]; rfl)) ?_; (with_reducible refine (token_All.calls k (⟨#[108, 101, 116, 32, 120, 61, 49]⟩ : ByteArray) t118 t119 t120 _ A1.out).mono ?_); rintro e w13 ⟨v121, rfl, ho0, hb⟩; refine ⟨_, rfl, ?_⟩; have n0_ := Aside0.mk (Kd.R_lower ho0 (below_size (by repeat (first | (with_reducible first | exact HB.out | apply below_alloc | apply pw_below_drewN | apply below_drew1) | exact HB.out)))); have n1_ := Aside0.mk (below_step (by repeat (first | (with_reducible first | exact HB.out | apply below_alloc | apply pw_below_drewN | apply below_drew1) | exact HB.out)) hb); clear HB; have HO122 := n0_; have HB := n1_; clear n0_ n1_; (try clear hb); (try clear hb2); (try clear hk); (try clear hi); (try clear ho0); obtain ⟨Ao14, co14, eo14⟩ := Kd.R_slice HO122.out; subst eo14; have p123 : 0 ≤ (2 : Int) := (by omega); have q123 : 2 < (t118.length : Int) := of_decide_eq_true (by first | (with_reducible assumption) | assumption); obtain ⟨ad123, e123, hx123_0, hx123_1, hx123_2, hx123_3⟩ := at_T40 (Kd.R_reads' HO122.out).2.2 2 p123 q123; cases e123; (try simp only [show (2 : Int).toNat = 2 from rfl, Nat.reduceMul, Nat.reduceEqDiff, Go.Addr.add, ↓reduceIte] at hx123_0); (try simp only [show (2 : Int).toNat = 2 from rfl, Nat.reduceMul, Nat.reduceEqDiff, Go.Addr.add, ↓reduceIte] at hx123_1); (try simp only [show (2 : Int).toNat = 2 from rfl, Nat.reduceMul, Nat.reduceEqDiff, Go.Addr.add, ↓reduceIte] at hx123_2); (try simp only [show (2 : Int).toNat = 2 from rfl, Nat.reduceMul, Nat.reduceEqDiff, Go.Addr.add, ↓reduceIte] at hx123_3); have qi123 : (2 < t118.length) = True := eq_true (by omega); (try rw [show ((2 : Int)).toNat = 2 from rfl] at hx123_0); (try rw [show 2 * 4 = 8 from rfl] at hx123_0); (try rw [show ((2 : Int)).toNat = 2 from rfl] at hx123_1); (try rw [show 2 * 4 = 8 from rfl] at hx123_1); (try rw [show ((2 : Int)).toNat = 2 from rfl] at hx123_2); (try rw [show 2 * 4 = 8 from rfl] at hx123_2); (try rw [show ((2 : Int)).toNat = 2 from rfl] at hx123_3); (try rw [show 2 * 4 = 8 from rfl] at hx123_3); replace p123 := eq_true p123; replace q123 := eq_true q123))
            go_ret
            exact ⟨by first | rfl | (simp [errW_none, errW_some] <;> rfl) | (simp [*, errW_none, errW_some] <;> rfl), by repeat (first | (with_reducible first | exact HB.out | apply below_alloc | apply pw_below_drewN | apply below_drew1) | exact HB.out)⟩
        · rw [if_neg c5] at H
          exact absurd H (by simp)
      · rw [if_neg c4] at H
        have c4b0 : ((t118.length : Int) == 4) = false := beq_eq_false_iff_ne.mpr c4
        have c4b1 : ((t118.length : Int) != 4) = true := bne_iff_ne.mpr c4
        obtain rfl := Option.some.inj H
        go_enter Tryd.func10, Tryd.ntmps10
        go_wp2_with (first | ((with_reducible refine gate_callee (f := 14) rfl ?_); refine goesL_ (some 5) rfl rfl Tryd.func14 (by kernel_rfl) rfl #[.string (⟨#[108, 101, 116, 32, 120, 61, 49]⟩ : ByteArray)] rfl (by (try simp only [List.map_toArray, List.map_cons, List.map_nil]); first | done | rfl | (simp only [List.length_drop, List.length_take]; rfl)) ?_; (with_reducible refine (token_All.calls k (⟨#[108, 101, 116, 32, 120, 61, 49]⟩ : ByteArray) t118 t119 t120 _ A1.out).mono ?_); rintro e w15 ⟨v121, rfl, ho0, hb⟩; refine ⟨_, rfl, ?_⟩; have n0_ := Aside0.mk (Kd.R_lower ho0 (below_size (by repeat (first | (with_reducible first | exact HB.out | apply below_alloc | apply pw_below_drewN | apply below_drew1) | exact HB.out)))); have n1_ := Aside0.mk (below_step (by repeat (first | (with_reducible first | exact HB.out | apply below_alloc | apply pw_below_drewN | apply below_drew1) | exact HB.out)) hb); clear HB; have HO122 := n0_; have HB := n1_; clear n0_ n1_; (try clear hb); (try clear hb2); (try clear hk); (try clear hi); (try clear ho0); obtain ⟨Ao16, co16, eo16⟩ := Kd.R_slice HO122.out; subst eo16))
        go_ret
        exact ⟨by first | rfl | (simp [errW_none, errW_some] <;> rfl) | (simp [*, errW_none, errW_some] <;> rfl), by repeat (first | (with_reducible first | exact HB.out | apply below_alloc | apply pw_below_drewN | apply below_drew1) | exact HB.out)⟩
    · rw [if_neg c3] at H
      have c3b0 : (t119 == 0) = false := beq_eq_false_iff_ne.mpr c3
      have c3b1 : (t119 != 0) = true := bne_iff_ne.mpr c3
      obtain rfl := Option.some.inj H
      go_enter Tryd.func10, Tryd.ntmps10
      go_wp2_with (first | ((with_reducible refine gate_callee (f := 14) rfl ?_); refine goesL_ (some 5) rfl rfl Tryd.func14 (by kernel_rfl) rfl #[.string (⟨#[108, 101, 116, 32, 120, 61, 49]⟩ : ByteArray)] rfl (by (try simp only [List.map_toArray, List.map_cons, List.map_nil]); first | done | rfl | (simp only [List.length_drop, List.length_take]; rfl)) ?_; (with_reducible refine (token_All.calls k (⟨#[108, 101, 116, 32, 120, 61, 49]⟩ : ByteArray) t118 t119 t120 _ A1.out).mono ?_); rintro e w17 ⟨v121, rfl, ho0, hb⟩; refine ⟨_, rfl, ?_⟩; have n0_ := Aside0.mk (Kd.R_lower ho0 (below_size (by repeat (first | (with_reducible first | exact HB.out | apply below_alloc | apply pw_below_drewN | apply below_drew1) | exact HB.out)))); have n1_ := Aside0.mk (below_step (by repeat (first | (with_reducible first | exact HB.out | apply below_alloc | apply pw_below_drewN | apply below_drew1) | exact HB.out)) hb); clear HB; have HO122 := n0_; have HB := n1_; clear n0_ n1_; (try clear hb); (try clear hb2); (try clear hk); (try clear hi); (try clear ho0)))
      go_ret
      exact ⟨by first | rfl | (simp [errW_none, errW_some] <;> rfl) | (simp [*, errW_none, errW_some] <;> rfl), by repeat (first | (with_reducible first | exact HB.out | apply below_alloc | apply pw_below_drewN | apply below_drew1) | exact HB.out)⟩
  · rw [if_neg c2] at H
    have c2b0 : (t120 == 0) = false := beq_eq_false_iff_ne.mpr c2
    have c2b1 : (t120 != 0) = true := bne_iff_ne.mpr c2
    obtain rfl := Option.some.inj H
    go_enter Tryd.func10, Tryd.ntmps10
    go_wp2_with (first | ((with_reducible refine gate_callee (f := 14) rfl ?_); refine goesL_ (some 5) rfl rfl Tryd.func14 (by kernel_rfl) rfl #[.string (⟨#[108, 101, 116, 32, 120, 61, 49]⟩ : ByteArray)] rfl (by (try simp only [List.map_toArray, List.map_cons, List.map_nil]); first | done | rfl | (simp only [List.length_drop, List.length_take]; rfl)) ?_; (with_reducible refine (token_All.calls k (⟨#[108, 101, 116, 32, 120, 61, 49]⟩ : ByteArray) t118 t119 t120 _ A1.out).mono ?_); rintro e w18 ⟨v121, rfl, ho0, hb⟩; refine ⟨_, rfl, ?_⟩; have n0_ := Aside0.mk (Kd.R_lower ho0 (below_size (by repeat (first | (with_reducible first | exact HB.out | apply below_alloc | apply pw_below_drewN | apply below_drew1) | exact HB.out)))); have n1_ := Aside0.mk (below_step (by repeat (first | (with_reducible first | exact HB.out | apply below_alloc | apply pw_below_drewN | apply below_drew1) | exact HB.out)) hb); clear HB; have HO122 := n0_; have HB := n1_; clear n0_ n1_; (try clear hb); (try clear hb2); (try clear hk); (try clear hi); (try clear ho0)))
    go_ret
    exact ⟨by first | rfl | (simp [errW_none, errW_some] <;> rfl) | (simp [*, errW_none, errW_some] <;> rfl), by repeat (first | (with_reducible first | exact HB.out | apply below_alloc | apply pw_below_drewN | apply below_drew1) | exact HB.out)⟩
end Go.Proofs.YtlbchdalimngjaaDoor.P
