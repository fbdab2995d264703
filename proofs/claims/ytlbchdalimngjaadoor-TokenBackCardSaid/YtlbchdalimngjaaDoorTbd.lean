/- Parts of a proof, joined by a program: the statement TokenBack holds (the tied card): tokens that are spelled are read again, just they -/
import Derived.Lib.AppendIntMem
import Derived.WalkLawsBesides
import Derived.StillTailTactics
import Derived.Test.YtlbchdalimngjaaDoorTbc
namespace Go.Proofs.YtlbchdalimngjaaDoor.P
open Go.RowKit Go.Proofs.YtlbchdalimngjaaDoorW.PrintWords Go.Proofs.YtlbchdalimngjaaDoorW.PrintLast Go.Proofs.YtlbchdalimngjaaDoorW.PrintMore
attribute [local go_sem] max2_int min2_int max_two min_two max_three min_three max_four min_four
set_option linter.unusedVariables false
set_option linter.unusedSimpArgs false
attribute [local go_sem high] eqA40
mutual
def token_right.j0 : Nat → Bool → Int → ByteArray → Int → Int → Int → ByteArray → Int → Int → Option (Bool)
  | 0, _, _, _, _, _, _, _, _, _ => none
  | k + 1, x32, x127000, x127001, x127002, x127003, x128000, x128001, x128002, x128003 => if x32 = true then (some false) else (token_right.l0 k (x127001.size : Int) 0 x127000 x127001 x127002 x127003 x128000 x128001 x128002 x128003)
def token_right.l0 : Nat → Int → Int → Int → ByteArray → Int → Int → Int → ByteArray → Int → Int → Option (Bool)
  | 0, _, _, _, _, _, _, _, _, _, _ => none
  | k + 1, x35, x36, x127000, x127001, x127002, x127003, x128000, x128001, x128002, x128003 => if x36 < x35 then (if 0 ≤ x36 then (if x36 < (x127001.size : Int) then ((token_inner.f (bt x127001 x36)).bind fun t129 => (if t129 = true then (token_right.l0 k x35 (wrap64 (x36 + 1)) x127000 x127001 x127002 x127003 x128000 x128001 x128002 x128003) else (some false))) else (none)) else (none)) else (some (x128000 == x127000 && (x128001.toList == x127001.toList && (x128002 == x127002 && (x128003 == x127003)))))
end
def token_right.f (k : Nat) (a0_0 : Int) (a0_1 : ByteArray) (a0_2 : Int) (a0_3 : Int) : Option (Bool) := if a0_0 = 1 then (if a0_1.toList = ([] : List UInt8) then (token_right.j0 k true a0_0 a0_1 a0_2 a0_3 a0_0 a0_1 0 a0_3) else (if (a0_1.size : Int) > 24 then (token_right.j0 k true a0_0 a0_1 a0_2 a0_3 a0_0 a0_1 0 a0_3) else (if 0 < (a0_1.size : Int) then ((token_letter.f (bt a0_1 0)).bind fun t128 => (token_right.j0 k (!t128) a0_0 a0_1 a0_2 a0_3 a0_0 a0_1 0 a0_3)) else (none)))) else (if a0_0 = 2 then (if a0_2 < 0 then (some false) else (some (([] : List UInt8) == a0_1.toList))) else (if a0_0 = 3 then (if (a0_1.size : Int) > 4095 then (some false) else (some (0 == a0_2))) else (if a0_0 = 4 then (if a0_1.toList = ([40] : List UInt8) then (some (0 == a0_2)) else (if a0_1.toList = ([41] : List UInt8) then (some (0 == a0_2)) else (if a0_1.toList = ([123] : List UInt8) then (some (0 == a0_2)) else (if a0_1.toList = ([125] : List UInt8) then (some (0 == a0_2)) else (if a0_1.toList = ([91] : List UInt8) then (some (0 == a0_2)) else (if a0_1.toList = ([93] : List UInt8) then (some (0 == a0_2)) else (if a0_1.toList = ([44] : List UInt8) then (some (0 == a0_2)) else (if a0_1.toList = ([61] : List UInt8) then (some (0 == a0_2)) else (if a0_1.toList = ([60] : List UInt8) then (some (0 == a0_2)) else (if a0_1.toList = ([43] : List UInt8) then (some (0 == a0_2)) else (if a0_1.toList = ([45] : List UInt8) then (some (0 == a0_2)) else (if a0_1.toList = ([42] : List UInt8) then (some (0 == a0_2)) else (if a0_1.toList = ([47] : List UInt8) then (some (0 == a0_2)) else (if a0_1.toList = ([37] : List UInt8) then (some (0 == a0_2)) else (if a0_1.toList = ([61, 61] : List UInt8) then (some (0 == a0_2)) else (if a0_1.toList = ([33, 61] : List UInt8) then (some (0 == a0_2)) else (if a0_1.toList = ([60, 61] : List UInt8) then (some (0 == a0_2)) else (some false)))))))))))))))))) else (some false))))
theorem token_right.mono_l : ∀ k, (∀ y0 y1 y2 y3 y4 y5 y6 y7 y8, LeO (token_right.j0 k y0 y1 y2 y3 y4 y5 y6 y7 y8) (token_right.j0 (k + 1) y0 y1 y2 y3 y4 y5 y6 y7 y8)) ∧ (∀ y0 y1 y2 y3 y4 y5 y6 y7 y8 y9, LeO (token_right.l0 k y0 y1 y2 y3 y4 y5 y6 y7 y8 y9) (token_right.l0 (k + 1) y0 y1 y2 y3 y4 y5 y6 y7 y8 y9))
  | 0 => ⟨fun _ _ _ _ _ _ _ _ _ r h => by simp [token_right.j0] at h, fun _ _ _ _ _ _ _ _ _ _ r h => by simp [token_right.l0] at h⟩
  | k + 1 => by
    obtain ⟨ih0, ih1⟩ := token_right.mono_l k
    refine ⟨?_, ?_⟩
    · intro y0 y1 y2 y3 y4 y5 y6 y7 y8
      unfold token_right.j0
      repeat' first
      | (with_reducible exact ih0 _ _ _ _ _ _ _ _ _)
      | (with_reducible exact ih1 _ _ _ _ _ _ _ _ _ _)
      | (with_reducible exact LeO.refl _)
      | (with_reducible exact LeO.none _)
      | (with_reducible refine LeO.ite ?_ ?_)
      | (with_reducible refine LeO.bind ?_ (fun _ => ?_))
      | exact ih0 _ _ _ _ _ _ _ _ _
      | exact ih1 _ _ _ _ _ _ _ _ _ _
      | exact LeO.none _
      | refine LeO.ite ?_ ?_
      | refine LeO.bind ?_ (fun _ => ?_)
    · intro y0 y1 y2 y3 y4 y5 y6 y7 y8 y9
      unfold token_right.l0
      repeat' first
      | (with_reducible exact ih0 _ _ _ _ _ _ _ _ _)
      | (with_reducible exact ih1 _ _ _ _ _ _ _ _ _ _)
      | (with_reducible exact LeO.refl _)
      | (with_reducible exact LeO.none _)
      | (with_reducible refine LeO.ite ?_ ?_)
      | (with_reducible refine LeO.bind ?_ (fun _ => ?_))
      | exact ih0 _ _ _ _ _ _ _ _ _
      | exact ih1 _ _ _ _ _ _ _ _ _ _
      | exact LeO.none _
      | refine LeO.ite ?_ ?_
      | refine LeO.bind ?_ (fun _ => ?_)
theorem token_right.mono : ∀ a0 a1 a2 a3 k, LeO (token_right.f k a0 a1 a2 a3) (token_right.f (k + 1) a0 a1 a2 a3) := by
  intro a0 a1 a2 a3 k
  obtain ⟨ih0, ih1⟩ := token_right.mono_l k
  unfold token_right.f
  repeat' first
      | (with_reducible exact ih0 _ _ _ _ _ _ _ _ _)
      | (with_reducible exact ih1 _ _ _ _ _ _ _ _ _ _)
      | (with_reducible exact LeO.refl _)
      | (with_reducible exact LeO.none _)
      | (with_reducible refine LeO.ite ?_ ?_)
      | (with_reducible refine LeO.bind ?_ (fun _ => ?_))
      | exact ih0 _ _ _ _ _ _ _ _ _
      | exact ih1 _ _ _ _ _ _ _ _ _ _
      | exact LeO.none _
      | refine LeO.ite ?_ ?_
      | refine LeO.bind ?_ (fun _ => ?_)
mutual
def token_quoted.l0 : Nat → ByteArray → List Int → Int → Int → Option (ByteArray)
  | 0, _, _, _, _ => none
  | k + 1, x0, x3, x8, x9 => if x9 < x8 then (if 0 ≤ x9 then (if x9 < (x0.size : Int) then (if (bt x0 x9) = 34 then (token_quoted.j1 k x0 x3 (bt x0 x9) x8 x9 true) else (token_quoted.j1 k x0 x3 (bt x0 x9) x8 x9 ((bt x0 x9) == 92))) else (none)) else (none)) else (if x3.length < 140737488355328 then (some (strOfNums (x3 ++ [34]))) else (none))
def token_quoted.j1 : Nat → ByteArray → List Int → Int → Int → Int → Bool → Option (ByteArray)
  | 0, _, _, _, _, _, _ => none
  | k + 1, x0, x3, x5, x8, x9, x19 => if x19 = true then ((some (([92, x5] : List Int) : List Int)).bind fun y136 => (if x3.length + y136.length < 140737488355328 then (token_quoted.l0 k x0 (x3 ++ y136) x8 (wrap64 (x9 + 1))) else (none))) else (if x5 = 10 then ((some (([92, 110] : List Int) : List Int)).bind fun y142 => (if x3.length + y142.length < 140737488355328 then (token_quoted.l0 k x0 (x3 ++ y142) x8 (wrap64 (x9 + 1))) else (none))) else (if x5 < 32 then (if 0 ≤ (x5 / 16) then (if (x5 / 16) < 16 then (if 0 ≤ (Go.bits .and .u8 x5 15) then (if (Go.bits .and .u8 x5 15) < 16 then ((some (([92, 120, bt (⟨#[48, 49, 50, 51, 52, 53, 54, 55, 56, 57, 97, 98, 99, 100, 101, 102]⟩ : ByteArray) (x5 / 16), bt (⟨#[48, 49, 50, 51, 52, 53, 54, 55, 56, 57, 97, 98, 99, 100, 101, 102]⟩ : ByteArray) (Go.bits .and .u8 x5 15)] : List Int) : List Int)).bind fun y148 => (if x3.length + y148.length < 140737488355328 then (token_quoted.l0 k x0 (x3 ++ y148) x8 (wrap64 (x9 + 1))) else (none))) else (none)) else (none)) else (none)) else (none)) else (if x5 > 126 then (if 0 ≤ (x5 / 16) then (if (x5 / 16) < 16 then (if 0 ≤ (Go.bits .and .u8 x5 15) then (if (Go.bits .and .u8 x5 15) < 16 then ((some (([92, 120, bt (⟨#[48, 49, 50, 51, 52, 53, 54, 55, 56, 57, 97, 98, 99, 100, 101, 102]⟩ : ByteArray) (x5 / 16), bt (⟨#[48, 49, 50, 51, 52, 53, 54, 55, 56, 57, 97, 98, 99, 100, 101, 102]⟩ : ByteArray) (Go.bits .and .u8 x5 15)] : List Int) : List Int)).bind fun y154 => (if x3.length + y154.length < 140737488355328 then (token_quoted.l0 k x0 (x3 ++ y154) x8 (wrap64 (x9 + 1))) else (none))) else (none)) else (none)) else (none)) else (none)) else (if x3.length < 140737488355328 then (token_quoted.l0 k x0 (x3 ++ [x5]) x8 (wrap64 (x9 + 1))) else (none)))))
end
def token_quoted.f (k : Nat) (a0 : ByteArray) : Option (ByteArray) := token_quoted.l0 k a0 (([34] : List Int)) (a0.size : Int) 0
theorem token_quoted.mono_l : ∀ k, (∀ y0 y1 y2 y3, LeO (token_quoted.l0 k y0 y1 y2 y3) (token_quoted.l0 (k + 1) y0 y1 y2 y3)) ∧ (∀ y0 y1 y2 y3 y4 y5, LeO (token_quoted.j1 k y0 y1 y2 y3 y4 y5) (token_quoted.j1 (k + 1) y0 y1 y2 y3 y4 y5))
  | 0 => ⟨fun _ _ _ _ r h => by simp [token_quoted.l0] at h, fun _ _ _ _ _ _ r h => by simp [token_quoted.j1] at h⟩
  | k + 1 => by
    obtain ⟨ih0, ih1⟩ := token_quoted.mono_l k
    refine ⟨?_, ?_⟩
    · intro y0 y1 y2 y3
      unfold token_quoted.l0
      repeat' first
      | (with_reducible exact ih0 _ _ _ _)
      | (with_reducible exact ih1 _ _ _ _ _ _)
      | (with_reducible exact LeO.refl _)
      | (with_reducible exact LeO.none _)
      | (with_reducible refine LeO.ite ?_ ?_)
      | (with_reducible refine LeO.bind ?_ (fun _ => ?_))
      | exact ih0 _ _ _ _
      | exact ih1 _ _ _ _ _ _
      | exact LeO.none _
      | refine LeO.ite ?_ ?_
      | refine LeO.bind ?_ (fun _ => ?_)
    · intro y0 y1 y2 y3 y4 y5
      unfold token_quoted.j1
      repeat' first
      | (with_reducible exact ih0 _ _ _ _)
      | (with_reducible exact ih1 _ _ _ _ _ _)
      | (with_reducible exact LeO.refl _)
      | (with_reducible exact LeO.none _)
      | (with_reducible refine LeO.ite ?_ ?_)
      | (with_reducible refine LeO.bind ?_ (fun _ => ?_))
      | exact ih0 _ _ _ _
      | exact ih1 _ _ _ _ _ _
      | exact LeO.none _
      | refine LeO.ite ?_ ?_
      | refine LeO.bind ?_ (fun _ => ?_)
theorem token_quoted.mono : ∀ a0 k, LeO (token_quoted.f k a0) (token_quoted.f (k + 1) a0) := by
  intro a0 k
  obtain ⟨ih0, ih1⟩ := token_quoted.mono_l k
  unfold token_quoted.f
  repeat' first
      | (with_reducible exact ih0 _ _ _ _)
      | (with_reducible exact ih1 _ _ _ _ _ _)
      | (with_reducible exact LeO.refl _)
      | (with_reducible exact LeO.none _)
      | (with_reducible refine LeO.ite ?_ ?_)
      | (with_reducible refine LeO.bind ?_ (fun _ => ?_))
      | exact ih0 _ _ _ _
      | exact ih1 _ _ _ _ _ _
      | exact LeO.none _
      | refine LeO.ite ?_ ?_
      | refine LeO.bind ?_ (fun _ => ?_)
def token_quoted.T12 : Bool × List (List Nat × List Nat) := (true, [([], []), ([], []), ([1], [1]), ([2], [2]), ([], []), ([4], [4]), ([5], [5]), ([3, 6], [3, 6]), ([0, 7], [0, 7]), ([8, 8, 0, 1, 2, 3, 4, 5, 6, 7, 8], [0, 8])])
def token_quoted.B12 : List Nat := [0, 0, 2, 6, 0, 16, 48, 126, 255, 511]
theorem token_quoted.tab12 : rtab .any (opsOf Tryd.f36 12) = token_quoted.T12 := by kernel_rfl
theorem token_quoted.bits12 : waitsOk token_quoted.T12.2 token_quoted.B12 = true := by kernel_rfl
set_option maxHeartbeats 8000000 in
set_option maxRecDepth 100000 in
theorem token_quoted.calls (k : Nat) (a0 : ByteArray) (r : ByteArray) (w : World) (h : token_quoted.f k a0 = some r) :
    Calls Tryd.prog 36 #[.string a0] w fun e w' => e = .returned (.string r) ∧ Below w.heap.size w w' := by
  have HB := Aside0.mk (Below.refl w.heap.size w)
  have H : (token_quoted.l0 k a0 (([34] : List Int)) (a0.size : Int) 0) = some r := h
  clear h
  obtain ⟨y130, hy130⟩ : ∃ y_ : List Int, y_ = (([34] : List Int)) := ⟨_, rfl⟩
  replace H : (token_quoted.l0 k a0 y130 (a0.size : Int) 0) = some r := by first | (rw [hy130]; with_reducible exact H) | (have H2_ := (Option.bind_some _ _).symm.trans H; rw [hy130]; with_reducible exact H2_) | (have H2_ := (Option.bind_some _ _).symm.trans H; with_reducible exact H2_) | with_reducible exact H | (rw [hy130]; exact H) | exact H
  have Ny130 := Aside0.mk hy130
  clear hy130
  have H' := Aside0.mk H
  clear H
  go_enter Tryd.func36, Tryd.ntmps36
  go_wp2_with (first | ((with_reducible refine gate_dst (N := 6) rfl ?_); refine Kd.R_lit (Kd.int .u8) _ 5 ?hg (N := 6) ?hd (xs := ([34] : List Int)) (inner := [.int .u8 34]) (ok := fun _ => True) (okp := fun _ => True) ?hr ?hp (fun _ hk => hk) trivial (Below.refl _ _) (Nat.le_refl _) (by simp) ?_; (case hd => rfl); (case hg => rfl); (case hr => first | (go_simp; done) | (go_simp; rfl)); (case hp => exact (Reps.one (show Kd.M (Kd.int .u8) _ _ _ 34 [.int .u8 34] from rfl) (Reps.none _ _))); intro v131 w2 ho3 hb hg_ hnew_; clear hg_ hnew_; (first | rw [← Ny130.out] at ho3 | (simp only [Int.reduceToNat] at ho3; rw [← Ny130.out] at ho3)); have n0_ := Aside0.mk (Kd.R_lower ho3 (below_size (by repeat (first | (with_reducible first | exact HB.out | apply below_alloc | apply pw_below_drewN | apply below_drew1) | exact HB.out)))); have n1_ := Aside0.mk (below_step (by repeat (first | (with_reducible first | exact HB.out | apply below_alloc | apply pw_below_drewN | apply below_drew1) | exact HB.out)) hb); clear HB; have HO132 := n0_; have HB := n1_; clear n0_ n1_; clear hb ho3))
  go_loopg [3, 9] k (fun kq v3 v9 w' => ∃ (x3_1 : List Int) (x9_1 : Int), v9 = .int .i64 x9_1 ∧ Aside0 (token_quoted.l0 kq a0 x3_1 (a0.size : Int) x9_1 = some r) ∧ Aside0 (kq ≤ k) ∧ Aside0 (Kd.R (Kd.int .u8) 5 w' w.heap.size (fun _ => True) v3 x3_1) ∧ Aside0 (Below w.heap.size w w'))
  case atStart => exact ⟨(y130), (0), (by first | rfl | (simp; done) | (simp [*]; done)), H', ⟨Nat.le_refl _⟩, ⟨by (with_reducible repeat (first | apply Kd.R_alloc | apply Kd.R_drewN | apply Kd.R_drew)); exact HO132.out⟩, ⟨by repeat (first | (with_reducible first | exact HB.out | apply below_alloc | apply pw_below_drewN | apply below_drew1) | exact HB.out)⟩⟩
  case round =>
    clear H'
    try clear p2
    try clear c3
    obtain ⟨x3_1, x9_1, rfl, HA, HK1, HO_3, HB⟩ := hrel
    cases gk with
    | zero => exact absurd HA.out (by simp [token_quoted.l0])
    | succ k1 =>
      have H := HA.out
      clear HA
      simp only [token_quoted.l0] at H
      by_cases c4 : x9_1 < (a0.size : Int)
      · rw [if_pos c4] at H
        have c4b0 : decide (x9_1 < (a0.size : Int)) = true := decide_eq_true c4
        clear c4
        by_cases c5 : 0 ≤ x9_1
        · rw [if_pos c5] at H
          have c5b0 : decide (0 ≤ x9_1) = true := decide_eq_true c5
          clear c5
          by_cases c6 : x9_1 < (a0.size : Int)
          · rw [if_pos c6] at H
            have c6b0 : decide (x9_1 < (a0.size : Int)) = true := decide_eq_true c6
            clear c6
            have HC8 := Aside0.mk H
            clear H
            have p7 : 0 ≤ (x9_1 : Int) := of_decide_eq_true (by first | (with_reducible assumption) | assumption)
            have q7 : x9_1 < (a0.size : Int) := of_decide_eq_true (by first | (with_reducible assumption) | assumption)
            have hx7 := bt_at a0 x9_1
            replace p7 := eq_true p7
            replace q7 := eq_true q7
            go_upto_region 7 with (fail)
            go_cut [19] (fun v19 wc => ∃ (kq : Nat) (x19_7 : Bool), v19 = .bool x19_7 ∧ Aside0 (token_quoted.j1 kq a0 x3_1 (bt a0 x9_1) (a0.size : Int) x9_1 x19_7 = some r) ∧ Aside0 (kq ≤ k1) ∧ Aside0 (Kd.R (Kd.int .u8) 5 wc w.heap.size (fun _ => True) u3 x3_1) ∧ Aside0 (Below w.heap.size w wc))
            case first =>
              have H := HC8.out
              clear HC8
              by_cases c9 : (bt a0 x9_1) = 34
              · rw [if_pos c9] at H
                have c9b0 : ((bt a0 x9_1) == 34) = true := beq_iff_eq.mpr c9
                have c9b1 : ((bt a0 x9_1) != 34) = false := bne_eq_false_iff_eq.mpr c9
                clear c9
                (first | rw [c9b0] | (simp only [i64_w, i32_w]; rw [c9b0]) | rw [c9b1] | skip)
                have H' := Aside0.mk H
                clear H
                go_wp2
                go_meet
                case rel => exact ⟨_, (true), (by first | rfl | (simp; done) | (simp [*]; done)), H', ⟨by have := HK1.out; first | omega | exact Nat.le_refl _⟩, ⟨by (with_reducible repeat (first | apply Kd.R_alloc | apply Kd.R_drewN | apply Kd.R_drew)); exact HO_3.out⟩, ⟨by repeat (first | (with_reducible first | exact HB.out | apply below_alloc | apply pw_below_drewN | apply below_drew1) | exact HB.out)⟩⟩
              · rw [if_neg c9] at H
                have c9b0 : ((bt a0 x9_1) == 34) = false := beq_eq_false_iff_ne.mpr c9
                have c9b1 : ((bt a0 x9_1) != 34) = true := bne_iff_ne.mpr c9
                (first | rw [c9b0] | (simp only [i64_w, i32_w]; rw [c9b0]) | rw [c9b1] | skip)
                have H' := Aside0.mk H
                clear H
                go_wp2
                go_meet
                case rel => exact ⟨_, (((bt a0 x9_1) == 92)), (by first | rfl | (simp; done) | (simp [*]; done)), H', ⟨by have := HK1.out; first | omega | exact Nat.le_refl _⟩, ⟨by (with_reducible repeat (first | apply Kd.R_alloc | apply Kd.R_drewN | apply Kd.R_drew)); exact HO_3.out⟩, ⟨by repeat (first | (with_reducible first | exact HB.out | apply below_alloc | apply pw_below_drewN | apply below_drew1) | exact HB.out)⟩⟩
            case rest =>
              clear HC8
              try clear p2
              try clear c3
              try clear c4
              try clear c4b0
              try clear c5
              try clear c5b0
              try clear c6
              try clear c6b0
              try clear p7
              try clear q7
              try clear hx7
              try clear c9
              try clear c9b0
              try clear c9b1
              try clear p2
              try clear p7
              try clear q7
              obtain ⟨kq, x19_7, rfl, HA, HJ7, HO_3, HB⟩ := hcut
              cases kq with
              | zero => exact absurd HA.out (by simp [token_quoted.j1])
              | succ kj7 =>
                have H := HA.out
                clear HA
                simp only [token_quoted.j1] at H
                by_cases c10 : x19_7 = true
                · subst c10
                  have H1 : ((some (([92, (bt a0 x9_1)] : List Int) : List Int)).bind fun y136 => (if x3_1.length + y136.length < 140737488355328 then (token_quoted.l0 kj7 a0 (x3_1 ++ y136) (a0.size : Int) (wrap64 (x9_1 + 1))) else (none))) = some r := by rw [if_pos rfl] at H; exact H
                  clear H
                  have H := H1
                  clear H1
                  obtain ⟨y136, hy136⟩ : ∃ y_ : List Int, y_ = (([92, (bt a0 x9_1)] : List Int)) := ⟨_, rfl⟩
                  replace H : (if x3_1.length + y136.length < 140737488355328 then (token_quoted.l0 kj7 a0 (x3_1 ++ y136) (a0.size : Int) (wrap64 (x9_1 + 1))) else (none)) = some r := by first | (rw [hy136]; with_reducible exact H) | (have H2_ := (Option.bind_some _ _).symm.trans H; rw [hy136]; with_reducible exact H2_) | (have H2_ := (Option.bind_some _ _).symm.trans H; with_reducible exact H2_) | with_reducible exact H | (rw [hy136]; exact H) | exact H
                  have Ny136 := Aside0.mk hy136
                  clear hy136
                  by_cases c11 : x3_1.length + y136.length < 140737488355328
                  · rw [if_pos c11] at H
                    have LMc11 := Aside0.mk c11
                    clear c11
                    obtain ⟨y139, hy139⟩ : ∃ y_ : List Int, y_ = (x3_1 ++ y136) := ⟨_, rfl⟩
                    replace H : (token_quoted.l0 kj7 a0 y139 (a0.size : Int) (wrap64 (x9_1 + 1))) = some r := by first | (rw [hy139]; with_reducible exact H) | (have H2_ := (Option.bind_some _ _).symm.trans H; rw [hy139]; with_reducible exact H2_) | (have H2_ := (Option.bind_some _ _).symm.trans H; with_reducible exact H2_) | with_reducible exact H | (rw [hy139]; exact H) | exact H
                    have Ny139 := Aside0.mk hy139
                    clear hy139
                    have H' := Aside0.mk H
                    clear H
                    go_wp2_with (first | ((with_reducible refine gate_dst (N := 28) rfl ?_); refine Kd.R_lit (Kd.int .u8) _ 5 ?hg (N := 28) ?hd (xs := ([92, (bt a0 x9_1)] : List Int)) (inner := [.int .u8 92, .int .u8 (bt a0 x9_1)]) (ok := fun _ => True) (okp := fun _ => True) ?hr ?hp (fun _ hk => hk) trivial (Below.refl _ _) (Nat.le_refl _) (by simp) ?_; (case hd => rfl); (case hg => rfl); (case hr => first | (go_simp; done) | (go_simp; rfl)); (case hp => exact (Reps.one (show Kd.M (Kd.int .u8) _ _ _ 92 [.int .u8 92] from rfl) (Reps.one (show Kd.M (Kd.int .u8) _ _ _ (bt a0 x9_1) [.int .u8 (bt a0 x9_1)] from rfl) (Reps.none _ _)))); intro v137 w12 ho13 hb hg_ hnew_; clear hg_ hnew_; (first | rw [← Ny136.out] at ho13 | (simp only [Int.reduceToNat] at ho13; rw [← Ny136.out] at ho13)); have n0_ := Aside0.mk (Kd.R_elder' (by (with_reducible repeat (first | apply Kd.R_alloc | apply Kd.R_drewN | apply Kd.R_drew)); exact HO_3.out) (Kd.R_base ho13) hb); have n1_ := Aside0.mk (Kd.R_lower (Kd.R_new' ho13 (Kd.R_lt (by (with_reducible repeat (first | apply Kd.R_alloc | apply Kd.R_drewN | apply Kd.R_drew)); exact HO_3.out))) (below_size (by repeat (first | (with_reducible first | exact HB.out | apply below_alloc | apply pw_below_drewN | apply below_drew1) | exact HB.out)))); have n2_ := Aside0.mk (below_step (by repeat (first | (with_reducible first | exact HB.out | apply below_alloc | apply pw_below_drewN | apply below_drew1) | exact HB.out)) hb); clear HO_3; clear HB; have HO_3 := n0_; have HO138 := n1_; have HB := n2_; clear n0_ n1_ n2_; clear hb ho13; obtain ⟨Ao15, co15, eo15⟩ := Kd.R_slice HO138.out; subst eo15) | ((with_reducible refine gate_builtin (b := .append) (xs := #[.tmp 26, .tmp 28]) rfl ?_); at_builtin; refine Kd.R_append_rows (Kd.int .u8) (w0 := w) w.heap.size rfl (.tmp 26) (.tmp 28) 54 5 (.int .u8 0) 1 rfl Tryd.underlying54 info5 rfl (by decide) (by omega) u3 x3_1 y136 _ _ _ (fun k_ => some k_ ≠ (.slice Ao15 y136.length co15 : Value).ownBlock) (fun _ => False) rfl rfl ?aO ?aR (fun _ _ h => h) (fun _ h => h.elim) ?aF ?aB ?aS ?aL ?_; (case aR => repeat (first | exact (Kd.R_reads' HO138.out).2.2 | (with_reducible refine Kd.C_alloc ?_ _) | (with_reducible refine Kd.C_drewN ?_ _) | (with_reducible refine Kd.C_drew ?_))); (case aB => exact (by repeat (first | (with_reducible first | exact HB.out | apply below_alloc | apply pw_below_drewN | apply below_drew1) | exact HB.out))); (case aF => exact (fun k_ hk => Kd.fresh' (Kd.R_lt (by (with_reducible repeat (first | apply Kd.R_alloc | apply Kd.R_drewN | apply Kd.R_drew)); exact HO138.out)) k_ hk)); (case aO => exact (by (with_reducible repeat (first | apply Kd.R_alloc | apply Kd.R_drewN | apply Kd.R_drew)); exact Kd.R_mono HO_3.out (fun _ hk => hk.2))); (case aS => exact (below_size (by repeat (first | (with_reducible first | exact HB.out | apply below_alloc | apply pw_below_drewN | apply below_drew1) | exact HB.out)))); (case aL => have := LMc11.out; omega); intro v140 w14 ho hb hg hat; rw [← Ny139.out] at ho; have n0_ := Aside0.mk (Kd.R_after (ok := (fun _ => True)) (by (with_reducible repeat (first | apply Kd.R_alloc | apply Kd.R_drewN | apply Kd.R_drew)); exact HO138.out) hg hat); have n1_ := Aside0.mk (hb); have n2_ := Aside0.mk (ho); clear HO138; clear HB; clear HO_3; have HO138 := n0_; have HB := n1_; have HO141 := n2_; clear n0_ n1_ n2_; clear ho hb hg hat))
                    go_roundg kj7
                    case measure => have := HK1.out; have := HJ7.out; omega
                    case rel => exact ⟨(y139), (wrap64 (x9_1 + 1)), (by first | rfl | (simp; done) | (simp [*]; done)), H', ⟨by have := HK1.out; have := HJ7.out; omega⟩, ⟨by (with_reducible repeat (first | apply Kd.R_alloc | apply Kd.R_drewN | apply Kd.R_drew)); exact Kd.R_mono HO141.out (fun _ hk => trivial)⟩, ⟨by repeat (first | (with_reducible first | exact HB.out | apply below_alloc | apply pw_below_drewN | apply below_drew1) | exact HB.out)⟩⟩
                  · rw [if_neg c11] at H
                    exact absurd H (by simp)
                · replace c10 := Bool.eq_false_iff.mpr c10
                  subst c10
                  have H1 : (if (bt a0 x9_1) = 10 then ((some (([92, 110] : List Int) : List Int)).bind fun y142 => (if x3_1.length + y142.length < 140737488355328 then (token_quoted.l0 kj7 a0 (x3_1 ++ y142) (a0.size : Int) (wrap64 (x9_1 + 1))) else (none))) else (if (bt a0 x9_1) < 32 then (if 0 ≤ ((bt a0 x9_1) / 16) then (if ((bt a0 x9_1) / 16) < 16 then (if 0 ≤ (Go.bits .and .u8 (bt a0 x9_1) 15) then (if (Go.bits .and .u8 (bt a0 x9_1) 15) < 16 then ((some (([92, 120, bt (⟨#[48, 49, 50, 51, 52, 53, 54, 55, 56, 57, 97, 98, 99, 100, 101, 102]⟩ : ByteArray) ((bt a0 x9_1) / 16), bt (⟨#[48, 49, 50, 51, 52, 53, 54, 55, 56, 57, 97, 98, 99, 100, 101, 102]⟩ : ByteArray) (Go.bits .and .u8 (bt a0 x9_1) 15)] : List Int) : List Int)).bind fun y148 => (if x3_1.length + y148.length < 140737488355328 then (token_quoted.l0 kj7 a0 (x3_1 ++ y148) (a0.size : Int) (wrap64 (x9_1 + 1))) else (none))) else (none)) else (none)) else (none)) else (none)) else (if (bt a0 x9_1) > 126 then (if 0 ≤ ((bt a0 x9_1) / 16) then (if ((bt a0 x9_1) / 16) < 16 then (if 0 ≤ (Go.bits .and .u8 (bt a0 x9_1) 15) then (if (Go.bits .and .u8 (bt a0 x9_1) 15) < 16 then ((some (([92, 120, bt (⟨#[48, 49, 50, 51, 52, 53, 54, 55, 56, 57, 97, 98, 99, 100, 101, 102]⟩ : ByteArray) ((bt a0 x9_1) / 16), bt (⟨#[48, 49, 50, 51, 52, 53, 54, 55, 56, 57, 97, 98, 99, 100, 101, 102]⟩ : ByteArray) (Go.bits .and .u8 (bt a0 x9_1) 15)] : List Int) : List Int)).bind fun y154 => (if x3_1.length + y154.length < 140737488355328 then (token_quoted.l0 kj7 a0 (x3_1 ++ y154) (a0.size : Int) (wrap64 (x9_1 + 1))) else (none))) else (none)) else (none)) else (none)) else (none)) else (if x3_1.length < 140737488355328 then (token_quoted.l0 kj7 a0 (x3_1 ++ [(bt a0 x9_1)]) (a0.size : Int) (wrap64 (x9_1 + 1))) else (none))))) = some r := by rw [if_neg (show ¬ (false = true) by decide)] at H; exact H
                  clear H
                  have H := H1
                  clear H1
                  by_cases c16 : (bt a0 x9_1) = 10
                  · rw [if_pos c16] at H
                    have c16b0 : ((bt a0 x9_1) == 10) = true := beq_iff_eq.mpr c16
                    have c16b1 : ((bt a0 x9_1) != 10) = false := bne_eq_false_iff_eq.mpr c16
                    clear c16
                    obtain ⟨y142, hy142⟩ : ∃ y_ : List Int, y_ = (([92, 110] : List Int)) := ⟨_, rfl⟩
                    replace H : (if x3_1.length + y142.length < 140737488355328 then (token_quoted.l0 kj7 a0 (x3_1 ++ y142) (a0.size : Int) (wrap64 (x9_1 + 1))) else (none)) = some r := by first | (rw [hy142]; with_reducible exact H) | (have H2_ := (Option.bind_some _ _).symm.trans H; rw [hy142]; with_reducible exact H2_) | (have H2_ := (Option.bind_some _ _).symm.trans H; with_reducible exact H2_) | with_reducible exact H | (rw [hy142]; exact H) | exact H
                    have Ny142 := Aside0.mk hy142
                    clear hy142
                    by_cases c17 : x3_1.length + y142.length < 140737488355328
                    · rw [if_pos c17] at H
                      have LMc17 := Aside0.mk c17
                      clear c17
                      obtain ⟨y145, hy145⟩ : ∃ y_ : List Int, y_ = (x3_1 ++ y142) := ⟨_, rfl⟩
                      replace H : (token_quoted.l0 kj7 a0 y145 (a0.size : Int) (wrap64 (x9_1 + 1))) = some r := by first | (rw [hy145]; with_reducible exact H) | (have H2_ := (Option.bind_some _ _).symm.trans H; rw [hy145]; with_reducible exact H2_) | (have H2_ := (Option.bind_some _ _).symm.trans H; with_reducible exact H2_) | with_reducible exact H | (rw [hy145]; exact H) | exact H
                      have Ny145 := Aside0.mk hy145
                      clear hy145
                      have H' := Aside0.mk H
                      clear H
                      go_wp2_with (first | ((with_reducible refine gate_dst (N := 34) rfl ?_); refine Kd.R_lit (Kd.int .u8) _ 5 ?hg (N := 34) ?hd (xs := ([92, 110] : List Int)) (inner := [.int .u8 92, .int .u8 110]) (ok := fun _ => True) (okp := fun _ => True) ?hr ?hp (fun _ hk => hk) trivial (Below.refl _ _) (Nat.le_refl _) (by simp) ?_; (case hd => rfl); (case hg => rfl); (case hr => first | (go_simp; done) | (go_simp; rfl)); (case hp => exact (Reps.one (show Kd.M (Kd.int .u8) _ _ _ 92 [.int .u8 92] from rfl) (Reps.one (show Kd.M (Kd.int .u8) _ _ _ 110 [.int .u8 110] from rfl) (Reps.none _ _)))); intro v143 w18 ho19 hb hg_ hnew_; clear hg_ hnew_; (first | rw [← Ny142.out] at ho19 | (simp only [Int.reduceToNat] at ho19; rw [← Ny142.out] at ho19)); have n0_ := Aside0.mk (Kd.R_elder' (by (with_reducible repeat (first | apply Kd.R_alloc | apply Kd.R_drewN | apply Kd.R_drew)); exact HO_3.out) (Kd.R_base ho19) hb); have n1_ := Aside0.mk (Kd.R_lower (Kd.R_new' ho19 (Kd.R_lt (by (with_reducible repeat (first | apply Kd.R_alloc | apply Kd.R_drewN | apply Kd.R_drew)); exact HO_3.out))) (below_size (by repeat (first | (with_reducible first | exact HB.out | apply below_alloc | apply pw_below_drewN | apply below_drew1) | exact HB.out)))); have n2_ := Aside0.mk (below_step (by repeat (first | (with_reducible first | exact HB.out | apply below_alloc | apply pw_below_drewN | apply below_drew1) | exact HB.out)) hb); clear HO_3; clear HB; have HO_3 := n0_; have HO144 := n1_; have HB := n2_; clear n0_ n1_ n2_; clear hb ho19; obtain ⟨Ao21, co21, eo21⟩ := Kd.R_slice HO144.out; subst eo21) | ((with_reducible refine gate_builtin (b := .append) (xs := #[.tmp 33, .tmp 34]) rfl ?_); at_builtin; refine Kd.R_append_rows (Kd.int .u8) (w0 := w) w.heap.size rfl (.tmp 33) (.tmp 34) 54 5 (.int .u8 0) 1 rfl Tryd.underlying54 info5 rfl (by decide) (by omega) u3 x3_1 y142 _ _ _ (fun k_ => some k_ ≠ (.slice Ao21 y142.length co21 : Value).ownBlock) (fun _ => False) rfl rfl ?aO ?aR (fun _ _ h => h) (fun _ h => h.elim) ?aF ?aB ?aS ?aL ?_; (case aR => repeat (first | exact (Kd.R_reads' HO144.out).2.2 | (with_reducible refine Kd.C_alloc ?_ _) | (with_reducible refine Kd.C_drewN ?_ _) | (with_reducible refine Kd.C_drew ?_))); (case aB => exact (by repeat (first | (with_reducible first | exact HB.out | apply below_alloc | apply pw_below_drewN | apply below_drew1) | exact HB.out))); (case aF => exact (fun k_ hk => Kd.fresh' (Kd.R_lt (by (with_reducible repeat (first | apply Kd.R_alloc | apply Kd.R_drewN | apply Kd.R_drew)); exact HO144.out)) k_ hk)); (case aO => exact (by (with_reducible repeat (first | apply Kd.R_alloc | apply Kd.R_drewN | apply Kd.R_drew)); exact Kd.R_mono HO_3.out (fun _ hk => hk.2))); (case aS => exact (below_size (by repeat (first | (with_reducible first | exact HB.out | apply below_alloc | apply pw_below_drewN | apply below_drew1) | exact HB.out)))); (case aL => have := LMc17.out; omega); intro v146 w20 ho hb hg hat; rw [← Ny145.out] at ho; have n0_ := Aside0.mk (Kd.R_after (ok := (fun _ => True)) (by (with_reducible repeat (first | apply Kd.R_alloc | apply Kd.R_drewN | apply Kd.R_drew)); exact HO144.out) hg hat); have n1_ := Aside0.mk (hb); have n2_ := Aside0.mk (ho); clear HO144; clear HB; clear HO_3; have HO144 := n0_; have HB := n1_; have HO147 := n2_; clear n0_ n1_ n2_; clear ho hb hg hat))
                      go_roundg kj7
                      case measure => have := HK1.out; have := HJ7.out; omega
                      case rel => exact ⟨(y145), (wrap64 (x9_1 + 1)), (by first | rfl | (simp; done) | (simp [*]; done)), H', ⟨by have := HK1.out; have := HJ7.out; omega⟩, ⟨by (with_reducible repeat (first | apply Kd.R_alloc | apply Kd.R_drewN | apply Kd.R_drew)); exact Kd.R_mono HO147.out (fun _ hk => trivial)⟩, ⟨by repeat (first | (with_reducible first | exact HB.out | apply below_alloc | apply pw_below_drewN | apply below_drew1) | exact HB.out)⟩⟩
                    · rw [if_neg c17] at H
                      exact absurd H (by simp)
                  · rw [if_neg c16] at H
                    have c16b0 : ((bt a0 x9_1) == 10) = false := beq_eq_false_iff_ne.mpr c16
                    have c16b1 : ((bt a0 x9_1) != 10) = true := bne_iff_ne.mpr c16
                    by_cases c22 : (bt a0 x9_1) < 32
                    · rw [if_pos c22] at H
                      have c22b0 : decide ((bt a0 x9_1) < 32) = true := decide_eq_true c22
                      clear c22
                      obtain ⟨ji23, hji23⟩ : ∃ j_ : Int, ((bt a0 x9_1) / 16) = j_ := ⟨_, rfl⟩
                      replace H : (if 0 ≤ (ji23) then (if (ji23) < 16 then (if 0 ≤ (Go.bits .and .u8 (bt a0 x9_1) 15) then (if (Go.bits .and .u8 (bt a0 x9_1) 15) < 16 then ((some (([92, 120, bt (⟨#[48, 49, 50, 51, 52, 53, 54, 55, 56, 57, 97, 98, 99, 100, 101, 102]⟩ : ByteArray) (ji23), bt (⟨#[48, 49, 50, 51, 52, 53, 54, 55, 56, 57, 97, 98, 99, 100, 101, 102]⟩ : ByteArray) (Go.bits .and .u8 (bt a0 x9_1) 15)] : List Int) : List Int)).bind fun y148 => (if x3_1.length + y148.length < 140737488355328 then (token_quoted.l0 kj7 a0 (x3_1 ++ y148) (a0.size : Int) (wrap64 (x9_1 + 1))) else (none))) else (none)) else (none)) else (none)) else (none)) = some r := by first | (rw [hji23] at H; exact H) | (simp only [hji23] at H ⊢; exact H)
                      by_cases c24 : 0 ≤ (ji23)
                      · rw [if_pos c24] at H
                        have c24b0 : decide (0 ≤ (ji23)) = true := decide_eq_true c24
                        clear c24
                        by_cases c25 : (ji23) < 16
                        · rw [if_pos c25] at H
                          have c25b0 : decide ((ji23) < 16) = true := decide_eq_true c25
                          clear c25
                          by_cases c27 : 0 ≤ (Go.bits .and .u8 (bt a0 x9_1) 15)
                          · rw [if_pos c27] at H
                            have c27b0 : decide (0 ≤ (Go.bits .and .u8 (bt a0 x9_1) 15)) = true := decide_eq_true c27
                            clear c27
                            by_cases c28 : (Go.bits .and .u8 (bt a0 x9_1) 15) < 16
                            · rw [if_pos c28] at H
                              have c28b0 : decide ((Go.bits .and .u8 (bt a0 x9_1) 15) < 16) = true := decide_eq_true c28
                              clear c28
                              obtain ⟨y148, hy148⟩ : ∃ y_ : List Int, y_ = (([92, 120, bt (⟨#[48, 49, 50, 51, 52, 53, 54, 55, 56, 57, 97, 98, 99, 100, 101, 102]⟩ : ByteArray) (ji23), bt (⟨#[48, 49, 50, 51, 52, 53, 54, 55, 56, 57, 97, 98, 99, 100, 101, 102]⟩ : ByteArray) (Go.bits .and .u8 (bt a0 x9_1) 15)] : List Int)) := ⟨_, rfl⟩
                              replace H : (if x3_1.length + y148.length < 140737488355328 then (token_quoted.l0 kj7 a0 (x3_1 ++ y148) (a0.size : Int) (wrap64 (x9_1 + 1))) else (none)) = some r := by first | (rw [hy148]; with_reducible exact H) | (have H2_ := (Option.bind_some _ _).symm.trans H; rw [hy148]; with_reducible exact H2_) | (have H2_ := (Option.bind_some _ _).symm.trans H; with_reducible exact H2_) | with_reducible exact H | (rw [hy148]; exact H) | exact H
                              have Ny148 := Aside0.mk hy148
                              clear hy148
                              by_cases c30 : x3_1.length + y148.length < 140737488355328
                              · rw [if_pos c30] at H
                                have LMc30 := Aside0.mk c30
                                clear c30
                                obtain ⟨y151, hy151⟩ : ∃ y_ : List Int, y_ = (x3_1 ++ y148) := ⟨_, rfl⟩
                                replace H : (token_quoted.l0 kj7 a0 y151 (a0.size : Int) (wrap64 (x9_1 + 1))) = some r := by first | (rw [hy151]; with_reducible exact H) | (have H2_ := (Option.bind_some _ _).symm.trans H; rw [hy151]; with_reducible exact H2_) | (have H2_ := (Option.bind_some _ _).symm.trans H; with_reducible exact H2_) | with_reducible exact H | (rw [hy151]; exact H) | exact H
                                have Ny151 := Aside0.mk hy151
                                clear hy151
                                have H' := Aside0.mk H
                                clear H
                                try go_wp2
                                have n0_ := Aside0.mk (Kd.R_drew HO_3.out)
                                have n1_ := Aside0.mk (below_drew1 HB.out)
                                clear HO_3
                                clear HB
                                have HO_3 := n0_
                                have HB := n1_
                                clear n0_ n1_
                                have p26 : 0 ≤ ((ji23) : Int) := of_decide_eq_true (by first | (with_reducible assumption) | assumption)
                                have q26 : (ji23) < (16 : Int) := of_decide_eq_true (by first | (with_reducible assumption) | assumption)
                                have hx26 := bt_at (⟨#[48, 49, 50, 51, 52, 53, 54, 55, 56, 57, 97, 98, 99, 100, 101, 102]⟩ : ByteArray) (ji23)
                                replace p26 := eq_true p26
                                replace q26 := eq_true q26
                                have p29 : 0 ≤ ((Go.bits .and .u8 (bt a0 x9_1) 15) : Int) := of_decide_eq_true (by first | (with_reducible assumption) | assumption)
                                have q29 : (Go.bits .and .u8 (bt a0 x9_1) 15) < (16 : Int) := of_decide_eq_true (by first | (with_reducible assumption) | assumption)
                                have hx29 := bt_at (⟨#[48, 49, 50, 51, 52, 53, 54, 55, 56, 57, 97, 98, 99, 100, 101, 102]⟩ : ByteArray) (Go.bits .and .u8 (bt a0 x9_1) 15)
                                replace p29 := eq_true p29
                                replace q29 := eq_true q29
                                refine start_ (n := 10) (S := fun w' => True) (ds := []) #[false, false, false, false, false, false, false, false, false, false] (by kernel_rfl) rfl rfl trivial (fun hHeld => ?_); refine with_tabW token_quoted.tab12 token_quoted.bits12 (fun HT_ HW_ => ?_)
                                generalize wc.drew = w31 at HO_3 HB hHeld ⊢
                                refine pure_ (i := 0) (N := some 43) (v := ?_) (a' := ?_) #[true, false, false, false, false, false, false, false, false, false] rfl rfl (any_of HT_.out (by kernel_rfl)) (fun _ _ _ h => h) (Or.inl ⟨by rfl, ?_⟩) ?_ ?_
                                rotate_left
                                · intro w'
                                  go_simp
                                  with_reducible rfl
                                rotate_left
                                · simp only [Act.put, List.setIfInBounds_toArray, List.set_cons_zero, List.set_cons_succ, i64_w, i32_w]
                                  rfl
                                refine pure_ (i := 1) (N := some 44) (v := ?_) (a' := ?_) #[true, true, false, false, false, false, false, false, false, false] rfl rfl (any_of HT_.out (by kernel_rfl)) (fun _ _ _ h => h) (Or.inl ⟨by rfl, ?_⟩) ?_ ?_
                                rotate_left
                                · intro w'
                                  go_simp
                                  with_reducible rfl
                                rotate_left
                                · simp only [Act.put, List.setIfInBounds_toArray, List.set_cons_zero, List.set_cons_succ, i64_w, i32_w]
                                  rfl
                                refine pure_ (i := 2) (N := some 45) (v := ?_) (a' := ?_) #[true, true, true, false, false, false, false, false, false, false] rfl rfl (any_of HT_.out (by kernel_rfl)) (fun _ _ _ h => h) (Or.inl ⟨by rfl, ?_⟩) ?_ ?_
                                rotate_left
                                · intro w'
                                  go_simp
                                  with_reducible rfl
                                rotate_left
                                · simp only [Act.put, List.setIfInBounds_toArray, List.set_cons_zero, List.set_cons_succ, i64_w, i32_w]
                                  rfl
                                refine pure_ (i := 4) (N := some 47) (v := ?_) (a' := ?_) #[true, true, true, false, true, false, false, false, false, false] rfl rfl (any_of HT_.out (by kernel_rfl)) (fun _ _ _ h => h) (Or.inl ⟨by rfl, ?_⟩) ?_ ?_
                                rotate_left
                                · intro w'
                                  go_simp
                                  with_reducible rfl
                                rotate_left
                                · simp only [Act.put, List.setIfInBounds_toArray, List.set_cons_zero, List.set_cons_succ, i64_w, i32_w]
                                  rfl
                                refine pure_ (i := 5) (N := some 48) (v := ?_) (a' := ?_) #[true, true, true, false, true, true, false, false, false, false] rfl rfl (any_of HT_.out (by kernel_rfl)) (fun _ _ _ h => h) (Or.inl ⟨by rfl, ?_⟩) ?_ ?_
                                rotate_left
                                · intro w'
                                  go_simp
                                  with_reducible rfl
                                rotate_left
                                · simp only [Act.put, List.setIfInBounds_toArray, List.set_cons_zero, List.set_cons_succ, i64_w, i32_w]
                                  rfl
                                refine take_ (i := 3) (N := some 46) (v := ?_) (a' := ?_) #[true, true, true, true, true, true, false, false, false, false] rfl rfl (take_ofW HT_.out HW_.out (by kernel_rfl)) (fun _ _ _ h => h) (Or.inl ⟨by rfl, ?_⟩) hHeld ?_ ?_
                                rotate_left
                                · intro w' _
                                  go_simp
                                  with_reducible rfl
                                rotate_left
                                · simp only [Act.put, List.setIfInBounds_toArray, List.set_cons_zero, List.set_cons_succ, i64_w, i32_w]
                                  rfl
                                refine take_ (i := 6) (N := some 49) (v := ?_) (a' := ?_) #[true, true, true, true, true, true, true, false, false, false] rfl rfl (take_ofW HT_.out HW_.out (by kernel_rfl)) (fun _ _ _ h => h) (Or.inl ⟨by rfl, ?_⟩) hHeld ?_ ?_
                                rotate_left
                                · intro w' _
                                  go_simp
                                  with_reducible rfl
                                rotate_left
                                · simp only [Act.put, List.setIfInBounds_toArray, List.set_cons_zero, List.set_cons_succ, i64_w, i32_w]
                                  rfl
                                refine one_ (i := 7) (N := some 50) #[true, true, true, true, true, true, true, true, false, false] rfl rfl (one_of HT_.out (by kernel_rfl)) (by decide) (fun K hK => ?_)
                                refine Kd.R_lit_step (Kd.int .u8) _ 5 ?hg (N := 50) ?hd (xs := ([92, 120, bt (⟨#[48, 49, 50, 51, 52, 53, 54, 55, 56, 57, 97, 98, 99, 100, 101, 102]⟩ : ByteArray) (ji23), bt (⟨#[48, 49, 50, 51, 52, 53, 54, 55, 56, 57, 97, 98, 99, 100, 101, 102]⟩ : ByteArray) (Go.bits .and .u8 (bt a0 x9_1) 15)] : List Int)) (inner := [.int .u8 92, .int .u8 120, .int .u8 (bt (⟨#[48, 49, 50, 51, 52, 53, 54, 55, 56, 57, 97, 98, 99, 100, 101, 102]⟩ : ByteArray) (ji23)), .int .u8 (bt (⟨#[48, 49, 50, 51, 52, 53, 54, 55, 56, 57, 97, 98, 99, 100, 101, 102]⟩ : ByteArray) (Go.bits .and .u8 (bt a0 x9_1) 15))]) (ok := fun _ => True) (okp := fun _ => True) ?hr ?hp (fun _ hk => hk) trivial (Below.refl _ _) (Nat.le_refl _) (by simp) ?_; (case hd => rfl); (case hg => rfl); (case hr => first | (go_simp; done) | (go_simp; rfl)); (case hp => exact (Reps.one (show Kd.M (Kd.int .u8) _ _ _ 92 [.int .u8 92] from rfl) (Reps.one (show Kd.M (Kd.int .u8) _ _ _ 120 [.int .u8 120] from rfl) (Reps.one (show Kd.M (Kd.int .u8) _ _ _ (bt (⟨#[48, 49, 50, 51, 52, 53, 54, 55, 56, 57, 97, 98, 99, 100, 101, 102]⟩ : ByteArray) (ji23)) [.int .u8 (bt (⟨#[48, 49, 50, 51, 52, 53, 54, 55, 56, 57, 97, 98, 99, 100, 101, 102]⟩ : ByteArray) (ji23))] from rfl) (Reps.one (show Kd.M (Kd.int .u8) _ _ _ (bt (⟨#[48, 49, 50, 51, 52, 53, 54, 55, 56, 57, 97, 98, 99, 100, 101, 102]⟩ : ByteArray) (Go.bits .and .u8 (bt a0 x9_1) 15)) [.int .u8 (bt (⟨#[48, 49, 50, 51, 52, 53, 54, 55, 56, 57, 97, 98, 99, 100, 101, 102]⟩ : ByteArray) (Go.bits .and .u8 (bt a0 x9_1) 15))] from rfl) (Reps.none _ _))))))
                                intro v149 w32 ho33 hb hg_ hnew_
                                clear hg_ hnew_
                                (first | rw [← Ny148.out] at ho33 | (simp only [Int.reduceToNat] at ho33; rw [← Ny148.out] at ho33))
                                have n0_ := Aside0.mk (Kd.R_elder' (by (with_reducible repeat (first | apply Kd.R_alloc | apply Kd.R_drewN | apply Kd.R_drew)); exact HO_3.out) (Kd.R_base ho33) hb)
                                have n1_ := Aside0.mk (Kd.R_lower (Kd.R_new' ho33 (Kd.R_lt (by (with_reducible repeat (first | apply Kd.R_alloc | apply Kd.R_drewN | apply Kd.R_drew)); exact HO_3.out))) (below_size (by repeat (first | (with_reducible first | exact HB.out | apply below_alloc | apply pw_below_drewN | apply below_drew1) | exact HB.out))))
                                have n2_ := Aside0.mk (below_step (by repeat (first | (with_reducible first | exact HB.out | apply below_alloc | apply pw_below_drewN | apply below_drew1) | exact HB.out)) hb)
                                clear HO_3
                                clear HB
                                have HO_3 := n0_
                                have HO150 := n1_
                                have HB := n2_
                                clear n0_ n1_ n2_
                                clear hb ho33
                                obtain ⟨Ao35, co35, eo35⟩ := Kd.R_slice HO150.out
                                (first | subst eo35 | (injection eo35 with f1_ f2_ f3_; have f4_ := f1_.symm; have f5_ := f3_.symm; clear f1_ f2_ f3_; subst f4_; subst f5_))
                                refine hK.out _ _ trivial (fun hHeld => ?_)
                                clear hK K
                                refine norm_ (a' := ?_) ?_ ?_
                                rotate_left
                                · show Act.put _ (some 50) _ = _
                                  simp only [Act.put, List.setIfInBounds_toArray, List.set_cons_zero, List.set_cons_succ, i64_w, i32_w]
                                  rfl
                                refine one_ (i := 8) (N := some 51) #[true, true, true, true, true, true, true, true, true, false] rfl rfl (one_of HT_.out (by kernel_rfl)) (by decide) (fun K hK => ?_)
                                refine Kd.R_append_rows_step (Kd.int .u8) (w0 := w) w.heap.size (by rfl) (.tmp 43) (.tmp 50) 54 5 (.int .u8 0) 1 rfl Tryd.underlying54 info5 rfl (by decide) (by omega) u3 x3_1 y148 _ _ _ (fun k_ => some k_ ≠ (.slice Ao35 y148.length co35 : Value).ownBlock) (fun _ => False) rfl rfl ?aO ?aR (fun _ _ h => h) (fun _ h => h.elim) ?aF ?aB ?aS ?aL ?_
                                (case aR => repeat (first | exact (Kd.R_reads' HO150.out).2.2 | (with_reducible refine Kd.C_alloc ?_ _) | (with_reducible refine Kd.C_drewN ?_ _) | (with_reducible refine Kd.C_drew ?_)))
                                (case aB => exact (by repeat (first | (with_reducible first | exact HB.out | apply below_alloc | apply pw_below_drewN | apply below_drew1) | exact HB.out)))
                                (case aF => exact (fun k_ hk => Kd.fresh' (Kd.R_lt (by (with_reducible repeat (first | apply Kd.R_alloc | apply Kd.R_drewN | apply Kd.R_drew)); exact HO150.out)) k_ hk))
                                (case aO => exact (by (with_reducible repeat (first | apply Kd.R_alloc | apply Kd.R_drewN | apply Kd.R_drew)); exact Kd.R_mono HO_3.out (fun _ hk => hk.2)))
                                (case aS => exact (below_size (by repeat (first | (with_reducible first | exact HB.out | apply below_alloc | apply pw_below_drewN | apply below_drew1) | exact HB.out))))
                                (case aL => have := LMc30.out; omega)
                                intro v152 w34 ho hb hg hat
                                rw [← Ny151.out] at ho
                                have n0_ := Aside0.mk (Kd.R_after (ok := (fun _ => True)) (by (with_reducible repeat (first | apply Kd.R_alloc | apply Kd.R_drewN | apply Kd.R_drew)); exact HO150.out) hg hat)
                                have n1_ := Aside0.mk (hb)
                                have n2_ := Aside0.mk (ho)
                                clear HO150
                                clear HB
                                clear HO_3
                                have HO150 := n0_
                                have HB := n1_
                                have HO153 := n2_
                                clear n0_ n1_ n2_
                                clear ho hb hg hat
                                refine hK.out _ _ trivial (fun hHeld => ?_)
                                clear hK K
                                refine norm_ (a' := ?_) ?_ ?_
                                rotate_left
                                · show Act.put _ (some 51) _ = _
                                  simp only [Act.put, List.setIfInBounds_toArray, List.set_cons_zero, List.set_cons_succ, i64_w, i32_w]
                                  rfl
                                refine pure_ (i := 9) (N := some 3) (v := ?_) (a' := ?_) #[true, true, true, true, true, true, true, true, true, true] rfl rfl (any_of HT_.out (by kernel_rfl)) (fun _ _ _ h => h) (Or.inl ⟨by rfl, ?_⟩) ?_ ?_
                                rotate_left
                                · intro w'
                                  go_simp
                                  with_reducible rfl
                                rotate_left
                                · simp only [Act.put, List.setIfInBounds_toArray, List.set_cons_zero, List.set_cons_succ, i64_w, i32_w]
                                  rfl
                                refine done_ (done_of HT_.out (by kernel_rfl)) ?_
                                try go_wp2
                                go_roundg kj7
                                case measure => have := HK1.out; have := HJ7.out; omega
                                case rel => exact ⟨(y151), (wrap64 (x9_1 + 1)), (by first | rfl | (simp; done) | (simp [*]; done)), H', ⟨by have := HK1.out; have := HJ7.out; omega⟩, ⟨by (with_reducible repeat (first | apply Kd.R_alloc | apply Kd.R_drewN | apply Kd.R_drew)); exact Kd.R_mono HO153.out (fun _ hk => trivial)⟩, ⟨by repeat (first | (with_reducible first | exact HB.out | apply below_alloc | apply pw_below_drewN | apply below_drew1) | exact HB.out)⟩⟩
                              · rw [if_neg c30] at H
                                exact absurd H (by simp)
                            · rw [if_neg c28] at H
                              exact absurd H (by simp)
                          · rw [if_neg c27] at H
                            exact absurd H (by simp)
                        · rw [if_neg c25] at H
                          exact absurd H (by simp)
                      · rw [if_neg c24] at H
                        exact absurd H (by simp)
                    · rw [if_neg c22] at H
                      have c22b0 : decide ((bt a0 x9_1) < 32) = false := decide_eq_false c22
                      clear c22
                      by_cases c36 : (bt a0 x9_1) > 126
                      · rw [if_pos c36] at H
                        have c36b0 : decide (126 < (bt a0 x9_1)) = true := decide_eq_true c36
                        clear c36
                        obtain ⟨ji37, hji37⟩ : ∃ j_ : Int, ((bt a0 x9_1) / 16) = j_ := ⟨_, rfl⟩
                        replace H : (if 0 ≤ (ji37) then (if (ji37) < 16 then (if 0 ≤ (Go.bits .and .u8 (bt a0 x9_1) 15) then (if (Go.bits .and .u8 (bt a0 x9_1) 15) < 16 then ((some (([92, 120, bt (⟨#[48, 49, 50, 51, 52, 53, 54, 55, 56, 57, 97, 98, 99, 100, 101, 102]⟩ : ByteArray) (ji37), bt (⟨#[48, 49, 50, 51, 52, 53, 54, 55, 56, 57, 97, 98, 99, 100, 101, 102]⟩ : ByteArray) (Go.bits .and .u8 (bt a0 x9_1) 15)] : List Int) : List Int)).bind fun y154 => (if x3_1.length + y154.length < 140737488355328 then (token_quoted.l0 kj7 a0 (x3_1 ++ y154) (a0.size : Int) (wrap64 (x9_1 + 1))) else (none))) else (none)) else (none)) else (none)) else (none)) = some r := by first | (rw [hji37] at H; exact H) | (simp only [hji37] at H ⊢; exact H)
                        by_cases c38 : 0 ≤ (ji37)
                        · rw [if_pos c38] at H
                          have c38b0 : decide (0 ≤ (ji37)) = true := decide_eq_true c38
                          clear c38
                          by_cases c39 : (ji37) < 16
                          · rw [if_pos c39] at H
                            have c39b0 : decide ((ji37) < 16) = true := decide_eq_true c39
                            clear c39
                            by_cases c41 : 0 ≤ (Go.bits .and .u8 (bt a0 x9_1) 15)
                            · rw [if_pos c41] at H
                              have c41b0 : decide (0 ≤ (Go.bits .and .u8 (bt a0 x9_1) 15)) = true := decide_eq_true c41
                              clear c41
                              by_cases c42 : (Go.bits .and .u8 (bt a0 x9_1) 15) < 16
                              · rw [if_pos c42] at H
                                have c42b0 : decide ((Go.bits .and .u8 (bt a0 x9_1) 15) < 16) = true := decide_eq_true c42
                                clear c42
                                obtain ⟨y154, hy154⟩ : ∃ y_ : List Int, y_ = (([92, 120, bt (⟨#[48, 49, 50, 51, 52, 53, 54, 55, 56, 57, 97, 98, 99, 100, 101, 102]⟩ : ByteArray) (ji37), bt (⟨#[48, 49, 50, 51, 52, 53, 54, 55, 56, 57, 97, 98, 99, 100, 101, 102]⟩ : ByteArray) (Go.bits .and .u8 (bt a0 x9_1) 15)] : List Int)) := ⟨_, rfl⟩
                                replace H : (if x3_1.length + y154.length < 140737488355328 then (token_quoted.l0 kj7 a0 (x3_1 ++ y154) (a0.size : Int) (wrap64 (x9_1 + 1))) else (none)) = some r := by first | (rw [hy154]; with_reducible exact H) | (have H2_ := (Option.bind_some _ _).symm.trans H; rw [hy154]; with_reducible exact H2_) | (have H2_ := (Option.bind_some _ _).symm.trans H; with_reducible exact H2_) | with_reducible exact H | (rw [hy154]; exact H) | exact H
                                have Ny154 := Aside0.mk hy154
                                clear hy154
                                by_cases c44 : x3_1.length + y154.length < 140737488355328
                                · rw [if_pos c44] at H
                                  have LMc44 := Aside0.mk c44
                                  clear c44
                                  obtain ⟨y157, hy157⟩ : ∃ y_ : List Int, y_ = (x3_1 ++ y154) := ⟨_, rfl⟩
                                  replace H : (token_quoted.l0 kj7 a0 y157 (a0.size : Int) (wrap64 (x9_1 + 1))) = some r := by first | (rw [hy157]; with_reducible exact H) | (have H2_ := (Option.bind_some _ _).symm.trans H; rw [hy157]; with_reducible exact H2_) | (have H2_ := (Option.bind_some _ _).symm.trans H; with_reducible exact H2_) | with_reducible exact H | (rw [hy157]; exact H) | exact H
                                  have Ny157 := Aside0.mk hy157
                                  clear hy157
                                  have H' := Aside0.mk H
                                  clear H
                                  try go_wp2
                                  have n0_ := Aside0.mk (Kd.R_drew HO_3.out)
                                  have n1_ := Aside0.mk (below_drew1 HB.out)
                                  clear HO_3
                                  clear HB
                                  have HO_3 := n0_
                                  have HB := n1_
                                  clear n0_ n1_
                                  have p40 : 0 ≤ ((ji37) : Int) := of_decide_eq_true (by first | (with_reducible assumption) | assumption)
                                  have q40 : (ji37) < (16 : Int) := of_decide_eq_true (by first | (with_reducible assumption) | assumption)
                                  have hx40 := bt_at (⟨#[48, 49, 50, 51, 52, 53, 54, 55, 56, 57, 97, 98, 99, 100, 101, 102]⟩ : ByteArray) (ji37)
                                  replace p40 := eq_true p40
                                  replace q40 := eq_true q40
                                  have p43 : 0 ≤ ((Go.bits .and .u8 (bt a0 x9_1) 15) : Int) := of_decide_eq_true (by first | (with_reducible assumption) | assumption)
                                  have q43 : (Go.bits .and .u8 (bt a0 x9_1) 15) < (16 : Int) := of_decide_eq_true (by first | (with_reducible assumption) | assumption)
                                  have hx43 := bt_at (⟨#[48, 49, 50, 51, 52, 53, 54, 55, 56, 57, 97, 98, 99, 100, 101, 102]⟩ : ByteArray) (Go.bits .and .u8 (bt a0 x9_1) 15)
                                  replace p43 := eq_true p43
                                  replace q43 := eq_true q43
                                  refine start_ (n := 10) (S := fun w' => True) (ds := []) #[false, false, false, false, false, false, false, false, false, false] (by kernel_rfl) rfl rfl trivial (fun hHeld => ?_); refine with_tabW token_quoted.tab12 token_quoted.bits12 (fun HT_ HW_ => ?_)
                                  generalize wc.drew = w45 at HO_3 HB hHeld ⊢
                                  refine pure_ (i := 0) (N := some 43) (v := ?_) (a' := ?_) #[true, false, false, false, false, false, false, false, false, false] rfl rfl (any_of HT_.out (by kernel_rfl)) (fun _ _ _ h => h) (Or.inl ⟨by rfl, ?_⟩) ?_ ?_
                                  rotate_left
                                  · intro w'
                                    go_simp
                                    with_reducible rfl
                                  rotate_left
                                  · simp only [Act.put, List.setIfInBounds_toArray, List.set_cons_zero, List.set_cons_succ, i64_w, i32_w]
                                    rfl
                                  refine pure_ (i := 1) (N := some 44) (v := ?_) (a' := ?_) #[true, true, false, false, false, false, false, false, false, false] rfl rfl (any_of HT_.out (by kernel_rfl)) (fun _ _ _ h => h) (Or.inl ⟨by rfl, ?_⟩) ?_ ?_
                                  rotate_left
                                  · intro w'
                                    go_simp
                                    with_reducible rfl
                                  rotate_left
                                  · simp only [Act.put, List.setIfInBounds_toArray, List.set_cons_zero, List.set_cons_succ, i64_w, i32_w]
                                    rfl
                                  refine pure_ (i := 2) (N := some 45) (v := ?_) (a' := ?_) #[true, true, true, false, false, false, false, false, false, false] rfl rfl (any_of HT_.out (by kernel_rfl)) (fun _ _ _ h => h) (Or.inl ⟨by rfl, ?_⟩) ?_ ?_
                                  rotate_left
                                  · intro w'
                                    go_simp
                                    with_reducible rfl
                                  rotate_left
                                  · simp only [Act.put, List.setIfInBounds_toArray, List.set_cons_zero, List.set_cons_succ, i64_w, i32_w]
                                    rfl
                                  refine pure_ (i := 4) (N := some 47) (v := ?_) (a' := ?_) #[true, true, true, false, true, false, false, false, false, false] rfl rfl (any_of HT_.out (by kernel_rfl)) (fun _ _ _ h => h) (Or.inl ⟨by rfl, ?_⟩) ?_ ?_
                                  rotate_left
                                  · intro w'
                                    go_simp
                                    with_reducible rfl
                                  rotate_left
                                  · simp only [Act.put, List.setIfInBounds_toArray, List.set_cons_zero, List.set_cons_succ, i64_w, i32_w]
                                    rfl
                                  refine pure_ (i := 5) (N := some 48) (v := ?_) (a' := ?_) #[true, true, true, false, true, true, false, false, false, false] rfl rfl (any_of HT_.out (by kernel_rfl)) (fun _ _ _ h => h) (Or.inl ⟨by rfl, ?_⟩) ?_ ?_
                                  rotate_left
                                  · intro w'
                                    go_simp
                                    with_reducible rfl
                                  rotate_left
                                  · simp only [Act.put, List.setIfInBounds_toArray, List.set_cons_zero, List.set_cons_succ, i64_w, i32_w]
                                    rfl
                                  refine take_ (i := 3) (N := some 46) (v := ?_) (a' := ?_) #[true, true, true, true, true, true, false, false, false, false] rfl rfl (take_ofW HT_.out HW_.out (by kernel_rfl)) (fun _ _ _ h => h) (Or.inl ⟨by rfl, ?_⟩) hHeld ?_ ?_
                                  rotate_left
                                  · intro w' _
                                    go_simp
                                    with_reducible rfl
                                  rotate_left
                                  · simp only [Act.put, List.setIfInBounds_toArray, List.set_cons_zero, List.set_cons_succ, i64_w, i32_w]
                                    rfl
                                  refine take_ (i := 6) (N := some 49) (v := ?_) (a' := ?_) #[true, true, true, true, true, true, true, false, false, false] rfl rfl (take_ofW HT_.out HW_.out (by kernel_rfl)) (fun _ _ _ h => h) (Or.inl ⟨by rfl, ?_⟩) hHeld ?_ ?_
                                  rotate_left
                                  · intro w' _
                                    go_simp
                                    with_reducible rfl
                                  rotate_left
                                  · simp only [Act.put, List.setIfInBounds_toArray, List.set_cons_zero, List.set_cons_succ, i64_w, i32_w]
                                    rfl
                                  refine one_ (i := 7) (N := some 50) #[true, true, true, true, true, true, true, true, false, false] rfl rfl (one_of HT_.out (by kernel_rfl)) (by decide) (fun K hK => ?_)
                                  refine Kd.R_lit_step (Kd.int .u8) _ 5 ?hg (N := 50) ?hd (xs := ([92, 120, bt (⟨#[48, 49, 50, 51, 52, 53, 54, 55, 56, 57, 97, 98, 99, 100, 101, 102]⟩ : ByteArray) (ji37), bt (⟨#[48, 49, 50, 51, 52, 53, 54, 55, 56, 57, 97, 98, 99, 100, 101, 102]⟩ : ByteArray) (Go.bits .and .u8 (bt a0 x9_1) 15)] : List Int)) (inner := [.int .u8 92, .int .u8 120, .int .u8 (bt (⟨#[48, 49, 50, 51, 52, 53, 54, 55, 56, 57, 97, 98, 99, 100, 101, 102]⟩ : ByteArray) (ji37)), .int .u8 (bt (⟨#[48, 49, 50, 51, 52, 53, 54, 55, 56, 57, 97, 98, 99, 100, 101, 102]⟩ : ByteArray) (Go.bits .and .u8 (bt a0 x9_1) 15))]) (ok := fun _ => True) (okp := fun _ => True) ?hr ?hp (fun _ hk => hk) trivial (Below.refl _ _) (Nat.le_refl _) (by simp) ?_; (case hd => rfl); (case hg => rfl); (case hr => first | (go_simp; done) | (go_simp; rfl)); (case hp => exact (Reps.one (show Kd.M (Kd.int .u8) _ _ _ 92 [.int .u8 92] from rfl) (Reps.one (show Kd.M (Kd.int .u8) _ _ _ 120 [.int .u8 120] from rfl) (Reps.one (show Kd.M (Kd.int .u8) _ _ _ (bt (⟨#[48, 49, 50, 51, 52, 53, 54, 55, 56, 57, 97, 98, 99, 100, 101, 102]⟩ : ByteArray) (ji37)) [.int .u8 (bt (⟨#[48, 49, 50, 51, 52, 53, 54, 55, 56, 57, 97, 98, 99, 100, 101, 102]⟩ : ByteArray) (ji37))] from rfl) (Reps.one (show Kd.M (Kd.int .u8) _ _ _ (bt (⟨#[48, 49, 50, 51, 52, 53, 54, 55, 56, 57, 97, 98, 99, 100, 101, 102]⟩ : ByteArray) (Go.bits .and .u8 (bt a0 x9_1) 15)) [.int .u8 (bt (⟨#[48, 49, 50, 51, 52, 53, 54, 55, 56, 57, 97, 98, 99, 100, 101, 102]⟩ : ByteArray) (Go.bits .and .u8 (bt a0 x9_1) 15))] from rfl) (Reps.none _ _))))))
                                  intro v155 w46 ho47 hb hg_ hnew_
                                  clear hg_ hnew_
                                  (first | rw [← Ny154.out] at ho47 | (simp only [Int.reduceToNat] at ho47; rw [← Ny154.out] at ho47))
                                  have n0_ := Aside0.mk (Kd.R_elder' (by (with_reducible repeat (first | apply Kd.R_alloc | apply Kd.R_drewN | apply Kd.R_drew)); exact HO_3.out) (Kd.R_base ho47) hb)
                                  have n1_ := Aside0.mk (Kd.R_lower (Kd.R_new' ho47 (Kd.R_lt (by (with_reducible repeat (first | apply Kd.R_alloc | apply Kd.R_drewN | apply Kd.R_drew)); exact HO_3.out))) (below_size (by repeat (first | (with_reducible first | exact HB.out | apply below_alloc | apply pw_below_drewN | apply below_drew1) | exact HB.out))))
                                  have n2_ := Aside0.mk (below_step (by repeat (first | (with_reducible first | exact HB.out | apply below_alloc | apply pw_below_drewN | apply below_drew1) | exact HB.out)) hb)
                                  clear HO_3
                                  clear HB
                                  have HO_3 := n0_
                                  have HO156 := n1_
                                  have HB := n2_
                                  clear n0_ n1_ n2_
                                  clear hb ho47
                                  obtain ⟨Ao49, co49, eo49⟩ := Kd.R_slice HO156.out
                                  (first | subst eo49 | (injection eo49 with f1_ f2_ f3_; have f4_ := f1_.symm; have f5_ := f3_.symm; clear f1_ f2_ f3_; subst f4_; subst f5_))
                                  refine hK.out _ _ trivial (fun hHeld => ?_)
                                  clear hK K
                                  refine norm_ (a' := ?_) ?_ ?_
                                  rotate_left
                                  · show Act.put _ (some 50) _ = _
                                    simp only [Act.put, List.setIfInBounds_toArray, List.set_cons_zero, List.set_cons_succ, i64_w, i32_w]
                                    rfl
                                  refine one_ (i := 8) (N := some 51) #[true, true, true, true, true, true, true, true, true, false] rfl rfl (one_of HT_.out (by kernel_rfl)) (by decide) (fun K hK => ?_)
                                  refine Kd.R_append_rows_step (Kd.int .u8) (w0 := w) w.heap.size (by rfl) (.tmp 43) (.tmp 50) 54 5 (.int .u8 0) 1 rfl Tryd.underlying54 info5 rfl (by decide) (by omega) u3 x3_1 y154 _ _ _ (fun k_ => some k_ ≠ (.slice Ao49 y154.length co49 : Value).ownBlock) (fun _ => False) rfl rfl ?aO ?aR (fun _ _ h => h) (fun _ h => h.elim) ?aF ?aB ?aS ?aL ?_
                                  (case aR => repeat (first | exact (Kd.R_reads' HO156.out).2.2 | (with_reducible refine Kd.C_alloc ?_ _) | (with_reducible refine Kd.C_drewN ?_ _) | (with_reducible refine Kd.C_drew ?_)))
                                  (case aB => exact (by repeat (first | (with_reducible first | exact HB.out | apply below_alloc | apply pw_below_drewN | apply below_drew1) | exact HB.out)))
                                  (case aF => exact (fun k_ hk => Kd.fresh' (Kd.R_lt (by (with_reducible repeat (first | apply Kd.R_alloc | apply Kd.R_drewN | apply Kd.R_drew)); exact HO156.out)) k_ hk))
                                  (case aO => exact (by (with_reducible repeat (first | apply Kd.R_alloc | apply Kd.R_drewN | apply Kd.R_drew)); exact Kd.R_mono HO_3.out (fun _ hk => hk.2)))
                                  (case aS => exact (below_size (by repeat (first | (with_reducible first | exact HB.out | apply below_alloc | apply pw_below_drewN | apply below_drew1) | exact HB.out))))
                                  (case aL => have := LMc44.out; omega)
                                  intro v158 w48 ho hb hg hat
                                  rw [← Ny157.out] at ho
                                  have n0_ := Aside0.mk (Kd.R_after (ok := (fun _ => True)) (by (with_reducible repeat (first | apply Kd.R_alloc | apply Kd.R_drewN | apply Kd.R_drew)); exact HO156.out) hg hat)
                                  have n1_ := Aside0.mk (hb)
                                  have n2_ := Aside0.mk (ho)
                                  clear HO156
                                  clear HB
                                  clear HO_3
                                  have HO156 := n0_
                                  have HB := n1_
                                  have HO159 := n2_
                                  clear n0_ n1_ n2_
                                  clear ho hb hg hat
                                  refine hK.out _ _ trivial (fun hHeld => ?_)
                                  clear hK K
                                  refine norm_ (a' := ?_) ?_ ?_
                                  rotate_left
                                  · show Act.put _ (some 51) _ = _
                                    simp only [Act.put, List.setIfInBounds_toArray, List.set_cons_zero, List.set_cons_succ, i64_w, i32_w]
                                    rfl
                                  refine pure_ (i := 9) (N := some 3) (v := ?_) (a' := ?_) #[true, true, true, true, true, true, true, true, true, true] rfl rfl (any_of HT_.out (by kernel_rfl)) (fun _ _ _ h => h) (Or.inl ⟨by rfl, ?_⟩) ?_ ?_
                                  rotate_left
                                  · intro w'
                                    go_simp
                                    with_reducible rfl
                                  rotate_left
                                  · simp only [Act.put, List.setIfInBounds_toArray, List.set_cons_zero, List.set_cons_succ, i64_w, i32_w]
                                    rfl
                                  refine done_ (done_of HT_.out (by kernel_rfl)) ?_
                                  try go_wp2
                                  go_roundg kj7
                                  case measure => have := HK1.out; have := HJ7.out; omega
                                  case rel => exact ⟨(y157), (wrap64 (x9_1 + 1)), (by first | rfl | (simp; done) | (simp [*]; done)), H', ⟨by have := HK1.out; have := HJ7.out; omega⟩, ⟨by (with_reducible repeat (first | apply Kd.R_alloc | apply Kd.R_drewN | apply Kd.R_drew)); exact Kd.R_mono HO159.out (fun _ hk => trivial)⟩, ⟨by repeat (first | (with_reducible first | exact HB.out | apply below_alloc | apply pw_below_drewN | apply below_drew1) | exact HB.out)⟩⟩
                                · rw [if_neg c44] at H
                                  exact absurd H (by simp)
                              · rw [if_neg c42] at H
                                exact absurd H (by simp)
                            · rw [if_neg c41] at H
                              exact absurd H (by simp)
                          · rw [if_neg c39] at H
                            exact absurd H (by simp)
                        · rw [if_neg c38] at H
                          exact absurd H (by simp)
                      · rw [if_neg c36] at H
                        have c36b0 : decide (126 < (bt a0 x9_1)) = false := decide_eq_false c36
                        clear c36
                        by_cases c50 : x3_1.length < 140737488355328
                        · rw [if_pos c50] at H
                          have LMc50 := Aside0.mk c50
                          clear c50
                          obtain ⟨y160, hy160⟩ : ∃ y_ : List Int, y_ = (x3_1 ++ [(bt a0 x9_1)]) := ⟨_, rfl⟩
                          replace H : (token_quoted.l0 kj7 a0 y160 (a0.size : Int) (wrap64 (x9_1 + 1))) = some r := by first | (rw [hy160]; with_reducible exact H) | (have H2_ := (Option.bind_some _ _).symm.trans H; rw [hy160]; with_reducible exact H2_) | (have H2_ := (Option.bind_some _ _).symm.trans H; with_reducible exact H2_) | with_reducible exact H | (rw [hy160]; exact H) | exact H
                          have Ny160 := Aside0.mk hy160
                          clear hy160
                          have H' := Aside0.mk H
                          clear H
                          go_wp2_with (first | ((with_reducible refine gate_builtin (b := .append) (xs := #[.tmp 15, .tmp 17]) rfl ?_); at_builtin; refine Kd.R_append (Kd.int .u8) (w0 := w) w.heap.size rfl (.tmp 15) (.tmp 17) 54 5 (.int .u8 0) 1 rfl Tryd.underlying54 info5 rfl (by decide) (by omega) u3 x3_1 (bt a0 x9_1) [.int .u8 (bt a0 x9_1)] (fun _ => True) (fun _ => False) rfl rfl ?aP (fun _ hk => hk.elim) ?aF ?aO ?aB ?aS ?aL ?_; (case aP => exact rfl); (case aB => exact (by repeat (first | (with_reducible first | exact HB.out | apply below_alloc | apply pw_below_drewN | apply below_drew1) | exact HB.out))); (case aF => exact (fun _ _ => trivial)); (case aO => exact (by (with_reducible repeat (first | apply Kd.R_alloc | apply Kd.R_drewN | apply Kd.R_drew)); exact HO_3.out)); (case aS => exact (below_size (by repeat (first | (with_reducible first | exact HB.out | apply below_alloc | apply pw_below_drewN | apply below_drew1) | exact HB.out)))); (case aL => have := LMc50.out; omega); intro v161 w51 ho hb hg hat; rw [← Ny160.out] at ho; have n0_ := Aside0.mk (hb); have n1_ := Aside0.mk (ho); clear HB; clear HO_3; have HB := n0_; have HO162 := n1_; clear n0_ n1_; clear ho hb hg hat))
                          go_roundg kj7
                          case measure => have := HK1.out; have := HJ7.out; omega
                          case rel => exact ⟨(y160), (wrap64 (x9_1 + 1)), (by first | rfl | (simp; done) | (simp [*]; done)), H', ⟨by have := HK1.out; have := HJ7.out; omega⟩, ⟨by (with_reducible repeat (first | apply Kd.R_alloc | apply Kd.R_drewN | apply Kd.R_drew)); exact HO162.out⟩, ⟨by repeat (first | (with_reducible first | exact HB.out | apply below_alloc | apply pw_below_drewN | apply below_drew1) | exact HB.out)⟩⟩
                        · rw [if_neg c50] at H
                          exact absurd H (by simp)
          · rw [if_neg c6] at H
            exact absurd H (by simp)
        · rw [if_neg c5] at H
          exact absurd H (by simp)
      · rw [if_neg c4] at H
        have c4b0 : decide (x9_1 < (a0.size : Int)) = false := decide_eq_false c4
        clear c4
        by_cases c52 : x3_1.length < 140737488355328
        · rw [if_pos c52] at H
          have LMc52 := Aside0.mk c52
          clear c52
          obtain ⟨y133, hy133⟩ : ∃ y_ : List Int, y_ = (x3_1 ++ [34]) := ⟨_, rfl⟩
          replace H : (some (strOfNums y133)) = some r := by first | (rw [hy133]; with_reducible exact H) | (have H2_ := (Option.bind_some _ _).symm.trans H; rw [hy133]; with_reducible exact H2_) | (have H2_ := (Option.bind_some _ _).symm.trans H; with_reducible exact H2_) | with_reducible exact H | (rw [hy133]; exact H) | exact H
          have Ny133 := Aside0.mk hy133
          clear hy133
          obtain rfl := Option.some.inj H
          go_wp2_with (first | ((with_reducible refine gate_builtin (b := .append) (xs := #[.tmp 53, .tmp 54]) rfl ?_); at_builtin; refine Kd.R_append (Kd.int .u8) (w0 := w) w.heap.size rfl (.tmp 53) (.tmp 54) 54 5 (.int .u8 0) 1 rfl Tryd.underlying54 info5 rfl (by decide) (by omega) u3 x3_1 34 [.int .u8 34] (fun _ => True) (fun _ => False) rfl rfl ?aP (fun _ hk => hk.elim) ?aF ?aO ?aB ?aS ?aL ?_; (case aP => exact rfl); (case aB => exact (by repeat (first | (with_reducible first | exact HB.out | apply below_alloc | apply pw_below_drewN | apply below_drew1) | exact HB.out))); (case aF => exact (fun _ _ => trivial)); (case aO => exact (by (with_reducible repeat (first | apply Kd.R_alloc | apply Kd.R_drewN | apply Kd.R_drew)); exact HO_3.out)); (case aS => exact (below_size (by repeat (first | (with_reducible first | exact HB.out | apply below_alloc | apply pw_below_drewN | apply below_drew1) | exact HB.out)))); (case aL => have := LMc52.out; omega); intro v134 w53 ho hb hg hat; rw [← Ny133.out] at ho; have n0_ := Aside0.mk (hb); have n1_ := Aside0.mk (ho); clear HB; clear HO_3; have HB := n0_; have HO135 := n1_; clear n0_ n1_; clear ho hb hg hat; have hcv54 := own_string (P := Tryd.prog) Tryd.underlying54 Tryd.underlying5 Tryd.underlying9 (Kd.own_of_R HO135.out)))
          go_ret
          exact ⟨by first | rfl | (simp [errW_none, errW_some] <;> rfl) | (simp [*, errW_none, errW_some] <;> rfl), by repeat (first | (with_reducible first | exact HB.out | apply below_alloc | apply pw_below_drewN | apply below_drew1) | exact HB.out)⟩
        · rw [if_neg c52] at H
          exact absurd H (by simp)
end Go.Proofs.YtlbchdalimngjaaDoor.P
namespace Go.Proofs.YtlbchdalimngjaaDoor.P
open Go.RowKit Go.Proofs.YtlbchdalimngjaaDoorW.PrintWords Go.Proofs.YtlbchdalimngjaaDoorW.PrintLast Go.Proofs.YtlbchdalimngjaaDoorW.PrintMore
set_option linter.unusedVariables false
set_option linter.unusedSimpArgs false
attribute [local go_sem high] eqA40
theorem ite_none' {α : Type} {c : Prop} [Decidable c] {a b : Option α} {r : α} (h : (if c then a else b) = some r) : (c ∧ a = some r) ∨ (¬ c ∧ b = some r) := by
  by_cases hc : c
  · rw [if_pos hc] at h; exact .inl ⟨hc, h⟩
  · rw [if_neg hc] at h; exact .inr ⟨hc, h⟩
set_option maxHeartbeats 8000000 in
set_option maxRecDepth 100000 in
theorem token_right.calls (k : Nat) (a0_0 : Int) (a0_1 : ByteArray) (a0_2 : Int) (a0_3 : Int) (r : Bool) (w : World) (h : token_right.f k a0_0 a0_1 a0_2 a0_3 = some r) :
    Calls Tryd.prog 31 #[.agg #[.int .u8 a0_0, .string a0_1, .int .i64 a0_2, .int .i64 a0_3]] w fun e w' => e = .returned (.bool r) ∧ Below w.heap.size w w' := by
  have hu40 := Tryd.underlying40
  unfold token_right.f at h
  have H0 := Aside0.mk h
  clear h
  go_enter Tryd.func31, Tryd.ntmps31
  go_upto_region 1 with (fail)
  obtain ⟨b1, hbb⟩ : ∃ b_ : Nat, b_ = w.heap.size := ⟨_, rfl⟩
  obtain ⟨w1, hww⟩ : ∃ W_ : World, W_ = w.alloc (.cells #[.int .u8 a0_0, .string a0_1, .int .i64 a0_2, .int .i64 a0_3] 40 (0, 0)) := ⟨_, rfl⟩
  have X1 := Aside0.mk (show w1.heap[b1]? = some (.cells #[.int .u8 a0_0, .string a0_1, .int .i64 a0_2, .int .i64 a0_3] 40 (0, 0)) by rw [hww, hbb]; exact blk_new _ _)
  have L1 := Aside0.mk (show Below w.heap.size w w1 by rw [hww]; exact below_alloc (Below.refl _ _) _)
  rw [← hww, ← hbb]
  clear hww hbb
  have hb1_w10 : w1.cell? ⟨b1, 0, none⟩ = some (.int .u8 a0_0) := (blk_cell X1.out 0).trans rfl
  have hb1_w11 : w1.cell? ⟨b1, 1, none⟩ = some (.string a0_1) := (blk_cell X1.out 1).trans rfl
  have hb1_w12 : w1.cell? ⟨b1, 2, none⟩ = some (.int .i64 a0_2) := (blk_cell X1.out 2).trans rfl
  have hb1_w13 : w1.cell? ⟨b1, 3, none⟩ = some (.int .i64 a0_3) := (blk_cell X1.out 3).trans rfl
  have fb1_w10 := blk_frozen X1.out 0
  have fb1_w11 := blk_frozen X1.out 1
  have fb1_w12 := blk_frozen X1.out 2
  have fb1_w13 := blk_frozen X1.out 3
  go_upto_region 2 with (fail)
  obtain ⟨b3, hbb⟩ : ∃ b_ : Nat, b_ = w1.heap.size := ⟨_, rfl⟩
  obtain ⟨w2, hww⟩ : ∃ W_ : World, W_ = w1.alloc (.cells #[.int .u8 a0_0, .string (⟨#[]⟩ : ByteArray), .int .i64 0, .int .i64 a0_3] 40 (0, 0)) := ⟨_, rfl⟩
  have Z2 := Aside0.mk (show w2.heap[b3]? = some (.cells #[.int .u8 a0_0, .string (⟨#[]⟩ : ByteArray), .int .i64 0, .int .i64 a0_3] 40 (0, 0)) by rw [hww, hbb]; exact blk_new _ _)
  have X2 := Aside0.mk (show w2.heap[b1]? = some (.cells #[.int .u8 a0_0, .string a0_1, .int .i64 a0_2, .int .i64 a0_3] 40 (0, 0)) by rw [hww]; exact blk_alloc X1.out _)
  have L2 := Aside0.mk (show Below w.heap.size w w2 by rw [hww]; exact below_alloc L1.out _)
  have NE := Aside0.mk (show b1 ≠ b3 by rw [hbb]; have := blk_lt X1.out; omega)
  have GE := Aside0.mk (show w.heap.size ≤ b3 by rw [hbb]; exact below_size L1.out)
  rw [← hww, ← hbb]
  clear hww hbb X1 L1
  clear hb1_w10 fb1_w10 hb1_w11 fb1_w11 hb1_w12 fb1_w12 hb1_w13 fb1_w13
  have hb1_w20 : w2.cell? ⟨b1, 0, none⟩ = some (.int .u8 a0_0) := (blk_cell X2.out 0).trans rfl
  have hb1_w21 : w2.cell? ⟨b1, 1, none⟩ = some (.string a0_1) := (blk_cell X2.out 1).trans rfl
  have hb1_w22 : w2.cell? ⟨b1, 2, none⟩ = some (.int .i64 a0_2) := (blk_cell X2.out 2).trans rfl
  have hb1_w23 : w2.cell? ⟨b1, 3, none⟩ = some (.int .i64 a0_3) := (blk_cell X2.out 3).trans rfl
  have fb1_w20 := blk_frozen X2.out 0
  have fb1_w21 := blk_frozen X2.out 1
  have fb1_w22 := blk_frozen X2.out 2
  have fb1_w23 := blk_frozen X2.out 3
  have hb3_w20 : w2.cell? ⟨b3, 0, none⟩ = some (.int .u8 a0_0) := (blk_cell Z2.out 0).trans rfl
  have hb3_w21 : w2.cell? ⟨b3, 1, none⟩ = some (.string (⟨#[]⟩ : ByteArray)) := (blk_cell Z2.out 1).trans rfl
  have hb3_w22 : w2.cell? ⟨b3, 2, none⟩ = some (.int .i64 0) := (blk_cell Z2.out 2).trans rfl
  have hb3_w23 : w2.cell? ⟨b3, 3, none⟩ = some (.int .i64 a0_3) := (blk_cell Z2.out 3).trans rfl
  have fb3_w20 := blk_frozen Z2.out 0
  have fb3_w21 := blk_frozen Z2.out 1
  have fb3_w22 := blk_frozen Z2.out 2
  have fb3_w23 := blk_frozen Z2.out 3
  by_cases k1 : a0_0 = 1
  · have e1 : (a0_0 == 1) = true := beq_iff_eq.mpr k1
    have H1 := H0.out
    rw [if_pos k1] at H1
    have H := Aside0.mk H1
    clear H1 H0 k1
    go_upto_region 6 with (fail)
    obtain ⟨w3, hww⟩ : ∃ W_ : World, W_ = w2.setCell ⟨b3, 1, none⟩ (.string a0_1) := ⟨_, rfl⟩
    have Z3 := Aside0.mk (show w3.heap[b3]? = some (.cells #[.int .u8 a0_0, .string a0_1, .int .i64 0, .int .i64 a0_3] 40 (0, 0)) by rw [hww]; exact blk_put (cs := #[.int .u8 a0_0, .string (⟨#[]⟩ : ByteArray), .int .i64 0, .int .i64 a0_3]) Z2.out 1 _ rfl)
    have X3 := Aside0.mk (show w3.heap[b1]? = some (.cells #[.int .u8 a0_0, .string a0_1, .int .i64 a0_2, .int .i64 a0_3] 40 (0, 0)) by rw [hww]; exact (Below.heap_setCell w2 ⟨b3, 1, none⟩ _ b1 NE.out).trans X2.out)
    have L3 := Aside0.mk (show Below w.heap.size w w3 by rw [hww]; exact below_set L2.out GE.out)
    try rw [← hww]
    clear hww
    clear hb1_w20 fb1_w20 hb1_w21 fb1_w21 hb1_w22 fb1_w22 hb1_w23 fb1_w23
    clear hb3_w20 fb3_w20 hb3_w21 fb3_w21 hb3_w22 fb3_w22 hb3_w23 fb3_w23
    clear X2 Z2 L2
    have hb1_w30 : w3.cell? ⟨b1, 0, none⟩ = some (.int .u8 a0_0) := (blk_cell X3.out 0).trans rfl
    have hb1_w31 : w3.cell? ⟨b1, 1, none⟩ = some (.string a0_1) := (blk_cell X3.out 1).trans rfl
    have hb1_w32 : w3.cell? ⟨b1, 2, none⟩ = some (.int .i64 a0_2) := (blk_cell X3.out 2).trans rfl
    have hb1_w33 : w3.cell? ⟨b1, 3, none⟩ = some (.int .i64 a0_3) := (blk_cell X3.out 3).trans rfl
    have fb1_w30 := blk_frozen X3.out 0
    have fb1_w31 := blk_frozen X3.out 1
    have fb1_w32 := blk_frozen X3.out 2
    have fb1_w33 := blk_frozen X3.out 3
    have hb3_w30 : w3.cell? ⟨b3, 0, none⟩ = some (.int .u8 a0_0) := (blk_cell Z3.out 0).trans rfl
    have hb3_w31 : w3.cell? ⟨b3, 1, none⟩ = some (.string a0_1) := (blk_cell Z3.out 1).trans rfl
    have hb3_w32 : w3.cell? ⟨b3, 2, none⟩ = some (.int .i64 0) := (blk_cell Z3.out 2).trans rfl
    have hb3_w33 : w3.cell? ⟨b3, 3, none⟩ = some (.int .i64 a0_3) := (blk_cell Z3.out 3).trans rfl
    have fb3_w30 := blk_frozen Z3.out 0
    have fb3_w31 := blk_frozen Z3.out 1
    have fb3_w32 := blk_frozen Z3.out 2
    have fb3_w33 := blk_frozen Z3.out 3
    rcases ite_none' H.out with ⟨c, h⟩ | ⟨c, h⟩
    · have e5 : (a0_1.toList == ([] : List UInt8)) = true := beq_iff_eq.mpr c
      cases k with
      | zero => rw [token_right.j0] at h; cases h
      | succ k =>
      rw [token_right.j0, if_pos rfl] at h
      obtain rfl := Option.some.inj h
      clear h c H
      go_wp2
      go_ret
      exact ⟨rfl, L3.out⟩
    · have e5 : (a0_1.toList == ([] : List UInt8)) = false := beq_eq_false_iff_ne.mpr c
      rcases ite_none' h with ⟨c2, h⟩ | ⟨c2, h⟩
      · have e6 : decide (24 < (a0_1.size : Int)) = true := decide_eq_true c2
        have e7 : decide (24 < a0_1.size) = true := decide_eq_true (by omega)
        cases k with
        | zero => rw [token_right.j0] at h; cases h
        | succ k =>
        rw [token_right.j0, if_pos rfl] at h
        obtain rfl := Option.some.inj h
        clear h c c2 H
        go_wp2
        go_ret
        exact ⟨rfl, L3.out⟩
      · have e6 : decide (24 < (a0_1.size : Int)) = false := decide_eq_false c2
        have e7 : decide (24 < a0_1.size) = false := decide_eq_false (by omega)
        rcases ite_none' h with ⟨c3, h⟩ | ⟨_, h⟩
        rotate_left
        · cases h
        obtain ⟨t, ht, h⟩ := Option.bind_eq_some_iff.1 h
        have A1 := Aside0.mk ht
        have H := Aside0.mk h
        have q17 : 0 < a0_1.size := by omega
        have hx17 : ∀ h : 0 < a0_1.size, ((a0_1[0]'h).toNat : Int) = bt a0_1 0 := bt_at a0_1 0
        have qi17 : (0 < (a0_1.size : Int)) = True := eq_true c3
        replace q17 := eq_true q17
        have HC2 := Aside0.mk c2
        clear ht h c c2 c3
        cases k with
        | zero => have h := H.out; rw [token_right.j0] at h; cases h
        | succ k =>
        cases t with
        | false =>
          have h := H.out
          rw [token_right.j0, if_pos (show (!false) = true from rfl)] at h
          obtain rfl := Option.some.inj h
          clear h H
          go_wp2_with (first | (go_at_call 41; (with_reducible refine (token_letter.calls (bt a0_1 0) false _ A1.out).mono ?_); rintro e w4 ⟨rfl, nd, rfl⟩; have L4 := Aside0.mk (pw_below_drewN L3.out nd); generalize w3.drewN nd = w4 at L4 ⊢))
          go_ret
          exact ⟨rfl, L4.out⟩
        | true =>
          have h := H.out
          rw [token_right.j0, if_neg (show ¬ ((!true) = true) by decide)] at h
          have H := Aside0.mk h
          clear h
          go_upto_region 8 with (go_at_call 41; (with_reducible refine (token_letter.calls (bt a0_1 0) true _ A1.out).mono ?_); rintro e w4 ⟨rfl, nd, rfl⟩; have L4 := Aside0.mk (pw_below_drewN L3.out nd); have X4 := Aside0.mk (blk_drewN X3.out nd); have Z4 := Aside0.mk (blk_drewN Z3.out nd); generalize w3.drewN nd = w4 at L4 X4 Z4 ⊢)
          clear X3 Z3 L3
          clear hb1_w30 fb1_w30 hb1_w31 fb1_w31 hb1_w32 fb1_w32 hb1_w33 fb1_w33
          clear hb3_w30 fb3_w30 hb3_w31 fb3_w31 hb3_w32 fb3_w32 hb3_w33 fb3_w33
          have hb1_w40 : w4.cell? ⟨b1, 0, none⟩ = some (.int .u8 a0_0) := (blk_cell X4.out 0).trans rfl
          have hb1_w41 : w4.cell? ⟨b1, 1, none⟩ = some (.string a0_1) := (blk_cell X4.out 1).trans rfl
          have hb1_w42 : w4.cell? ⟨b1, 2, none⟩ = some (.int .i64 a0_2) := (blk_cell X4.out 2).trans rfl
          have hb1_w43 : w4.cell? ⟨b1, 3, none⟩ = some (.int .i64 a0_3) := (blk_cell X4.out 3).trans rfl
          have fb1_w40 := blk_frozen X4.out 0
          have fb1_w41 := blk_frozen X4.out 1
          have fb1_w42 := blk_frozen X4.out 2
          have fb1_w43 := blk_frozen X4.out 3
          go_wp2
          go_loopg [36] k (fun kq v36 w' => ∃ (x : Int), v36 = .int .i64 x ∧ Aside0 (token_right.l0 kq (a0_1.size : Int) x a0_0 a0_1 a0_2 a0_3 a0_0 a0_1 0 a0_3 = some r) ∧ Aside0 (kq ≤ k) ∧ Aside0 (w'.heap[b1]? = some (.cells #[.int .u8 a0_0, .string a0_1, .int .i64 a0_2, .int .i64 a0_3] 40 (0, 0))) ∧ Aside0 (w'.heap[b3]? = some (.cells #[.int .u8 a0_0, .string a0_1, .int .i64 0, .int .i64 a0_3] 40 (0, 0))) ∧ Aside0 (Below w.heap.size w w'))
          case atStart => exact ⟨0, rfl, H, ⟨Nat.le_refl _⟩, X4, Z4, L4⟩
          case round =>
            clear H X4 Z4 L4
            clear hb1_w40 fb1_w40 hb1_w41 fb1_w41 hb1_w42 fb1_w42 hb1_w43 fb1_w43
            obtain ⟨x, rfl, HA, HK1, X5, Z5, L5⟩ := hrel
            cases gk with
            | zero => exact absurd HA.out (by simp [token_right.l0])
            | succ k1 =>
            have h := HA.out
            rw [token_right.l0] at h
            have hb1_wr0 : wr.cell? ⟨b1, 0, none⟩ = some (.int .u8 a0_0) := (blk_cell X5.out 0).trans rfl
            have hb1_wr1 : wr.cell? ⟨b1, 1, none⟩ = some (.string a0_1) := (blk_cell X5.out 1).trans rfl
            have hb1_wr2 : wr.cell? ⟨b1, 2, none⟩ = some (.int .i64 a0_2) := (blk_cell X5.out 2).trans rfl
            have hb1_wr3 : wr.cell? ⟨b1, 3, none⟩ = some (.int .i64 a0_3) := (blk_cell X5.out 3).trans rfl
            have fb1_wr0 := blk_frozen X5.out 0
            have fb1_wr1 := blk_frozen X5.out 1
            have fb1_wr2 := blk_frozen X5.out 2
            have fb1_wr3 := blk_frozen X5.out 3
            have hb3_wr0 : wr.cell? ⟨b3, 0, none⟩ = some (.int .u8 a0_0) := (blk_cell Z5.out 0).trans rfl
            have hb3_wr1 : wr.cell? ⟨b3, 1, none⟩ = some (.string a0_1) := (blk_cell Z5.out 1).trans rfl
            have hb3_wr2 : wr.cell? ⟨b3, 2, none⟩ = some (.int .i64 0) := (blk_cell Z5.out 2).trans rfl
            have hb3_wr3 : wr.cell? ⟨b3, 3, none⟩ = some (.int .i64 a0_3) := (blk_cell Z5.out 3).trans rfl
            have fb3_wr0 := blk_frozen Z5.out 0
            have fb3_wr1 := blk_frozen Z5.out 1
            have fb3_wr2 := blk_frozen Z5.out 2
            have fb3_wr3 := blk_frozen Z5.out 3
            rcases ite_none' h with ⟨c4, h⟩ | ⟨c4, h⟩
            · rcases ite_none' h with ⟨c5, h⟩ | ⟨_, h⟩
              rotate_left
              · cases h
              rcases ite_none' h with ⟨c6, h⟩ | ⟨_, h⟩
              rotate_left
              · cases h
              obtain ⟨t, ht, h⟩ := Option.bind_eq_some_iff.1 h
              have d4 : decide (x < (a0_1.size : Int)) = true := decide_eq_true c4
              have p5 : (0 ≤ x) = True := eq_true c5
              have p6 : (x < (a0_1.size : Int)) = True := eq_true c6
              have hx := bt_at a0_1 x
              have A2 := Aside0.mk ht
              have H := Aside0.mk h
              clear ht h HA c4 c5 c6
              cases t with
              | true =>
                have h := H.out
                rw [if_pos rfl] at h
                have H := Aside0.mk h
                clear h
                go_wp2_with (first | (go_at_call 42; (with_reducible refine (token_inner.calls (bt a0_1 x) true _ A2.out).mono ?_); rintro e w6 ⟨rfl, nd, rfl⟩; have L6 := Aside0.mk (pw_below_drewN L5.out nd); have X6 := Aside0.mk (blk_drewN X5.out nd); have Z6 := Aside0.mk (blk_drewN Z5.out nd); generalize wr.drewN nd = w6 at L6 X6 Z6 ⊢))
                go_roundg k1
                case measure => have := HK1.out; omega
                case rel => exact ⟨_, by first | rfl | (simp; done) | (simp [*]; done), H, ⟨by have := HK1.out; omega⟩, X6, Z6, L6⟩
              | false =>
                have h := H.out
                rw [if_neg (by decide)] at h
                obtain rfl := Option.some.inj h
                clear h H
                go_wp2_with (first | (go_at_call 42; (with_reducible refine (token_inner.calls (bt a0_1 x) false _ A2.out).mono ?_); rintro e w6 ⟨rfl, nd, rfl⟩; have L6 := Aside0.mk (pw_below_drewN L5.out nd); generalize wr.drewN nd = w6 at L6 ⊢))
                go_ret
                exact ⟨rfl, L6.out⟩
            · have d4 : decide (x < (a0_1.size : Int)) = false := decide_eq_false c4
              obtain rfl := Option.some.inj h
              clear h c4 HA
              go_wp2
              go_ret
              exact ⟨by first | rfl | (simp; done) | (simp [*]; done), L5.out⟩
  · have e1 : (a0_0 == 1) = false := beq_eq_false_iff_ne.mpr k1
    have H1 := H0.out
    rw [if_neg k1] at H1
    have H0 := Aside0.mk H1
    clear H1
    by_cases k2 : a0_0 = 2
    · have e2 : (a0_0 == 2) = true := beq_iff_eq.mpr k2
      have H1 := H0.out
      rw [if_pos k2] at H1
      have H := Aside0.mk H1
      clear H1 H0 k2 k1
      go_upto_region 16 with (fail)
      obtain ⟨w3, hww⟩ : ∃ W_ : World, W_ = w2.setCell ⟨b3, 2, none⟩ (.int .i64 a0_2) := ⟨_, rfl⟩
      have Z3 := Aside0.mk (show w3.heap[b3]? = some (.cells #[.int .u8 a0_0, .string (⟨#[]⟩ : ByteArray), .int .i64 a0_2, .int .i64 a0_3] 40 (0, 0)) by rw [hww]; exact blk_put (cs := #[.int .u8 a0_0, .string (⟨#[]⟩ : ByteArray), .int .i64 0, .int .i64 a0_3]) Z2.out 2 _ rfl)
      have X3 := Aside0.mk (show w3.heap[b1]? = some (.cells #[.int .u8 a0_0, .string a0_1, .int .i64 a0_2, .int .i64 a0_3] 40 (0, 0)) by rw [hww]; exact (Below.heap_setCell w2 ⟨b3, 2, none⟩ _ b1 NE.out).trans X2.out)
      have L3 := Aside0.mk (show Below w.heap.size w w3 by rw [hww]; exact below_set L2.out GE.out)
      try rw [← hww]
      clear hww
      clear hb1_w20 fb1_w20 hb1_w21 fb1_w21 hb1_w22 fb1_w22 hb1_w23 fb1_w23
      clear hb3_w20 fb3_w20 hb3_w21 fb3_w21 hb3_w22 fb3_w22 hb3_w23 fb3_w23
      clear X2 Z2 L2
      have hb1_w30 : w3.cell? ⟨b1, 0, none⟩ = some (.int .u8 a0_0) := (blk_cell X3.out 0).trans rfl
      have hb1_w31 : w3.cell? ⟨b1, 1, none⟩ = some (.string a0_1) := (blk_cell X3.out 1).trans rfl
      have hb1_w32 : w3.cell? ⟨b1, 2, none⟩ = some (.int .i64 a0_2) := (blk_cell X3.out 2).trans rfl
      have hb1_w33 : w3.cell? ⟨b1, 3, none⟩ = some (.int .i64 a0_3) := (blk_cell X3.out 3).trans rfl
      have fb1_w30 := blk_frozen X3.out 0
      have fb1_w31 := blk_frozen X3.out 1
      have fb1_w32 := blk_frozen X3.out 2
      have fb1_w33 := blk_frozen X3.out 3
      have hb3_w30 : w3.cell? ⟨b3, 0, none⟩ = some (.int .u8 a0_0) := (blk_cell Z3.out 0).trans rfl
      have hb3_w31 : w3.cell? ⟨b3, 1, none⟩ = some (.string (⟨#[]⟩ : ByteArray)) := (blk_cell Z3.out 1).trans rfl
      have hb3_w32 : w3.cell? ⟨b3, 2, none⟩ = some (.int .i64 a0_2) := (blk_cell Z3.out 2).trans rfl
      have hb3_w33 : w3.cell? ⟨b3, 3, none⟩ = some (.int .i64 a0_3) := (blk_cell Z3.out 3).trans rfl
      have fb3_w30 := blk_frozen Z3.out 0
      have fb3_w31 := blk_frozen Z3.out 1
      have fb3_w32 := blk_frozen Z3.out 2
      have fb3_w33 := blk_frozen Z3.out 3
      rcases ite_none' H.out with ⟨c, h⟩ | ⟨c, h⟩
      · have d0 : decide (a0_2 < 0) = true := decide_eq_true (by omega)
        obtain rfl := Option.some.inj h
        clear h c H
        go_wp2
        go_ret
        exact ⟨by first | rfl | (simp; done) | (simp [*]; done), L3.out⟩
      · have d0 : decide (a0_2 < 0) = false := decide_eq_false (by omega)
        obtain rfl := Option.some.inj h
        clear h c H
        go_wp2
        go_ret
        exact ⟨by first | rfl | (simp; done) | (simp [*]; done), L3.out⟩
    · have e2 : (a0_0 == 2) = false := beq_eq_false_iff_ne.mpr k2
      have H1 := H0.out
      rw [if_neg k2] at H1
      have H0 := Aside0.mk H1
      clear H1
      by_cases k3 : a0_0 = 3
      · have e3 : (a0_0 == 3) = true := beq_iff_eq.mpr k3
        have H1 := H0.out
        rw [if_pos k3] at H1
        have H := Aside0.mk H1
        clear H1 H0 k3 k1 k2
        go_upto_region 20 with (fail)
        obtain ⟨w3, hww⟩ : ∃ W_ : World, W_ = w2.setCell ⟨b3, 1, none⟩ (.string a0_1) := ⟨_, rfl⟩
        have Z3 := Aside0.mk (show w3.heap[b3]? = some (.cells #[.int .u8 a0_0, .string a0_1, .int .i64 0, .int .i64 a0_3] 40 (0, 0)) by rw [hww]; exact blk_put (cs := #[.int .u8 a0_0, .string (⟨#[]⟩ : ByteArray), .int .i64 0, .int .i64 a0_3]) Z2.out 1 _ rfl)
        have X3 := Aside0.mk (show w3.heap[b1]? = some (.cells #[.int .u8 a0_0, .string a0_1, .int .i64 a0_2, .int .i64 a0_3] 40 (0, 0)) by rw [hww]; exact (Below.heap_setCell w2 ⟨b3, 1, none⟩ _ b1 NE.out).trans X2.out)
        have L3 := Aside0.mk (show Below w.heap.size w w3 by rw [hww]; exact below_set L2.out GE.out)
        try rw [← hww]
        clear hww
        clear hb1_w20 fb1_w20 hb1_w21 fb1_w21 hb1_w22 fb1_w22 hb1_w23 fb1_w23
        clear hb3_w20 fb3_w20 hb3_w21 fb3_w21 hb3_w22 fb3_w22 hb3_w23 fb3_w23
        clear X2 Z2 L2
        have hb1_w30 : w3.cell? ⟨b1, 0, none⟩ = some (.int .u8 a0_0) := (blk_cell X3.out 0).trans rfl
        have hb1_w31 : w3.cell? ⟨b1, 1, none⟩ = some (.string a0_1) := (blk_cell X3.out 1).trans rfl
        have hb1_w32 : w3.cell? ⟨b1, 2, none⟩ = some (.int .i64 a0_2) := (blk_cell X3.out 2).trans rfl
        have hb1_w33 : w3.cell? ⟨b1, 3, none⟩ = some (.int .i64 a0_3) := (blk_cell X3.out 3).trans rfl
        have fb1_w30 := blk_frozen X3.out 0
        have fb1_w31 := blk_frozen X3.out 1
        have fb1_w32 := blk_frozen X3.out 2
        have fb1_w33 := blk_frozen X3.out 3
        have hb3_w30 : w3.cell? ⟨b3, 0, none⟩ = some (.int .u8 a0_0) := (blk_cell Z3.out 0).trans rfl
        have hb3_w31 : w3.cell? ⟨b3, 1, none⟩ = some (.string a0_1) := (blk_cell Z3.out 1).trans rfl
        have hb3_w32 : w3.cell? ⟨b3, 2, none⟩ = some (.int .i64 0) := (blk_cell Z3.out 2).trans rfl
        have hb3_w33 : w3.cell? ⟨b3, 3, none⟩ = some (.int .i64 a0_3) := (blk_cell Z3.out 3).trans rfl
        have fb3_w30 := blk_frozen Z3.out 0
        have fb3_w31 := blk_frozen Z3.out 1
        have fb3_w32 := blk_frozen Z3.out 2
        have fb3_w33 := blk_frozen Z3.out 3
        rcases ite_none' H.out with ⟨c, h⟩ | ⟨c, h⟩
        · have d0 : decide (4095 < (a0_1.size : Int)) = true := decide_eq_true (by omega)
          have d1 : decide (4095 < a0_1.size) = true := decide_eq_true (by omega)
          obtain rfl := Option.some.inj h
          clear h c H
          go_wp2
          go_ret
          exact ⟨by first | rfl | (simp; done) | (simp [*]; done), L3.out⟩
        · have d0 : decide (4095 < (a0_1.size : Int)) = false := decide_eq_false (by omega)
          have d1 : decide (4095 < a0_1.size) = false := decide_eq_false (by omega)
          obtain rfl := Option.some.inj h
          clear h c H
          go_wp2
          go_ret
          exact ⟨by first | rfl | (simp; done) | (simp [*]; done), L3.out⟩
      · have e3 : (a0_0 == 3) = false := beq_eq_false_iff_ne.mpr k3
        have H1 := H0.out
        rw [if_neg k3] at H1
        have H0 := Aside0.mk H1
        clear H1
        by_cases k4 : a0_0 = 4
        · have e4 : (a0_0 == 4) = true := beq_iff_eq.mpr k4
          have H1 := H0.out
          rw [if_pos k4] at H1
          have H := Aside0.mk H1
          clear H1 H0 k4 k1 k2 k3
          go_upto_region 24 with (fail)
          obtain ⟨w3, hww⟩ : ∃ W_ : World, W_ = w2.setCell ⟨b3, 1, none⟩ (.string a0_1) := ⟨_, rfl⟩
          have Z3 := Aside0.mk (show w3.heap[b3]? = some (.cells #[.int .u8 a0_0, .string a0_1, .int .i64 0, .int .i64 a0_3] 40 (0, 0)) by rw [hww]; exact blk_put (cs := #[.int .u8 a0_0, .string (⟨#[]⟩ : ByteArray), .int .i64 0, .int .i64 a0_3]) Z2.out 1 _ rfl)
          have X3 := Aside0.mk (show w3.heap[b1]? = some (.cells #[.int .u8 a0_0, .string a0_1, .int .i64 a0_2, .int .i64 a0_3] 40 (0, 0)) by rw [hww]; exact (Below.heap_setCell w2 ⟨b3, 1, none⟩ _ b1 NE.out).trans X2.out)
          have L3 := Aside0.mk (show Below w.heap.size w w3 by rw [hww]; exact below_set L2.out GE.out)
          try rw [← hww]
          clear hww
          clear hb1_w20 fb1_w20 hb1_w21 fb1_w21 hb1_w22 fb1_w22 hb1_w23 fb1_w23
          clear hb3_w20 fb3_w20 hb3_w21 fb3_w21 hb3_w22 fb3_w22 hb3_w23 fb3_w23
          clear X2 Z2 L2
          have hb1_w30 : w3.cell? ⟨b1, 0, none⟩ = some (.int .u8 a0_0) := (blk_cell X3.out 0).trans rfl
          have hb1_w31 : w3.cell? ⟨b1, 1, none⟩ = some (.string a0_1) := (blk_cell X3.out 1).trans rfl
          have hb1_w32 : w3.cell? ⟨b1, 2, none⟩ = some (.int .i64 a0_2) := (blk_cell X3.out 2).trans rfl
          have hb1_w33 : w3.cell? ⟨b1, 3, none⟩ = some (.int .i64 a0_3) := (blk_cell X3.out 3).trans rfl
          have fb1_w30 := blk_frozen X3.out 0
          have fb1_w31 := blk_frozen X3.out 1
          have fb1_w32 := blk_frozen X3.out 2
          have fb1_w33 := blk_frozen X3.out 3
          have hb3_w30 : w3.cell? ⟨b3, 0, none⟩ = some (.int .u8 a0_0) := (blk_cell Z3.out 0).trans rfl
          have hb3_w31 : w3.cell? ⟨b3, 1, none⟩ = some (.string a0_1) := (blk_cell Z3.out 1).trans rfl
          have hb3_w32 : w3.cell? ⟨b3, 2, none⟩ = some (.int .i64 0) := (blk_cell Z3.out 2).trans rfl
          have hb3_w33 : w3.cell? ⟨b3, 3, none⟩ = some (.int .i64 a0_3) := (blk_cell Z3.out 3).trans rfl
          have fb3_w30 := blk_frozen Z3.out 0
          have fb3_w31 := blk_frozen Z3.out 1
          have fb3_w32 := blk_frozen Z3.out 2
          have fb3_w33 := blk_frozen Z3.out 3
          have h := H.out
          clear H
          rcases ite_none' h with ⟨c0, h⟩ | ⟨c0, h⟩
          · have m0 : (a0_1.toList == ([40] : List UInt8)) = true := beq_iff_eq.mpr c0
            obtain rfl := Option.some.inj h
            clear h c0
            go_wp2
            go_ret
            exact ⟨by first | rfl | (simp; done) | (simp [*]; done), L3.out⟩
          have m0 : (a0_1.toList == ([40] : List UInt8)) = false := beq_eq_false_iff_ne.mpr c0
          rcases ite_none' h with ⟨c1, h⟩ | ⟨c1, h⟩
          · have m1 : (a0_1.toList == ([41] : List UInt8)) = true := beq_iff_eq.mpr c1
            obtain rfl := Option.some.inj h
            clear h c0 c1
            go_wp2
            go_ret
            exact ⟨by first | rfl | (simp; done) | (simp [*]; done), L3.out⟩
          have m1 : (a0_1.toList == ([41] : List UInt8)) = false := beq_eq_false_iff_ne.mpr c1
          rcases ite_none' h with ⟨c2, h⟩ | ⟨c2, h⟩
          · have m2 : (a0_1.toList == ([123] : List UInt8)) = true := beq_iff_eq.mpr c2
            obtain rfl := Option.some.inj h
            clear h c0 c1 c2
            go_wp2
            go_ret
            exact ⟨by first | rfl | (simp; done) | (simp [*]; done), L3.out⟩
          have m2 : (a0_1.toList == ([123] : List UInt8)) = false := beq_eq_false_iff_ne.mpr c2
          rcases ite_none' h with ⟨c3, h⟩ | ⟨c3, h⟩
          · have m3 : (a0_1.toList == ([125] : List UInt8)) = true := beq_iff_eq.mpr c3
            obtain rfl := Option.some.inj h
            clear h c0 c1 c2 c3
            go_wp2
            go_ret
            exact ⟨by first | rfl | (simp; done) | (simp [*]; done), L3.out⟩
          have m3 : (a0_1.toList == ([125] : List UInt8)) = false := beq_eq_false_iff_ne.mpr c3
          rcases ite_none' h with ⟨c4, h⟩ | ⟨c4, h⟩
          · have m4 : (a0_1.toList == ([91] : List UInt8)) = true := beq_iff_eq.mpr c4
            obtain rfl := Option.some.inj h
            clear h c0 c1 c2 c3 c4
            go_wp2
            go_ret
            exact ⟨by first | rfl | (simp; done) | (simp [*]; done), L3.out⟩
          have m4 : (a0_1.toList == ([91] : List UInt8)) = false := beq_eq_false_iff_ne.mpr c4
          rcases ite_none' h with ⟨c5, h⟩ | ⟨c5, h⟩
          · have m5 : (a0_1.toList == ([93] : List UInt8)) = true := beq_iff_eq.mpr c5
            obtain rfl := Option.some.inj h
            clear h c0 c1 c2 c3 c4 c5
            go_wp2
            go_ret
            exact ⟨by first | rfl | (simp; done) | (simp [*]; done), L3.out⟩
          have m5 : (a0_1.toList == ([93] : List UInt8)) = false := beq_eq_false_iff_ne.mpr c5
          rcases ite_none' h with ⟨c6, h⟩ | ⟨c6, h⟩
          · have m6 : (a0_1.toList == ([44] : List UInt8)) = true := beq_iff_eq.mpr c6
            obtain rfl := Option.some.inj h
            clear h c0 c1 c2 c3 c4 c5 c6
            go_wp2
            go_ret
            exact ⟨by first | rfl | (simp; done) | (simp [*]; done), L3.out⟩
          have m6 : (a0_1.toList == ([44] : List UInt8)) = false := beq_eq_false_iff_ne.mpr c6
          rcases ite_none' h with ⟨c7, h⟩ | ⟨c7, h⟩
          · have m7 : (a0_1.toList == ([61] : List UInt8)) = true := beq_iff_eq.mpr c7
            obtain rfl := Option.some.inj h
            clear h c0 c1 c2 c3 c4 c5 c6 c7
            go_wp2
            go_ret
            exact ⟨by first | rfl | (simp; done) | (simp [*]; done), L3.out⟩
          have m7 : (a0_1.toList == ([61] : List UInt8)) = false := beq_eq_false_iff_ne.mpr c7
          rcases ite_none' h with ⟨c8, h⟩ | ⟨c8, h⟩
          · have m8 : (a0_1.toList == ([60] : List UInt8)) = true := beq_iff_eq.mpr c8
            obtain rfl := Option.some.inj h
            clear h c0 c1 c2 c3 c4 c5 c6 c7 c8
            go_wp2
            go_ret
            exact ⟨by first | rfl | (simp; done) | (simp [*]; done), L3.out⟩
          have m8 : (a0_1.toList == ([60] : List UInt8)) = false := beq_eq_false_iff_ne.mpr c8
          rcases ite_none' h with ⟨c9, h⟩ | ⟨c9, h⟩
          · have m9 : (a0_1.toList == ([43] : List UInt8)) = true := beq_iff_eq.mpr c9
            obtain rfl := Option.some.inj h
            clear h c0 c1 c2 c3 c4 c5 c6 c7 c8 c9
            go_wp2
            go_ret
            exact ⟨by first | rfl | (simp; done) | (simp [*]; done), L3.out⟩
          have m9 : (a0_1.toList == ([43] : List UInt8)) = false := beq_eq_false_iff_ne.mpr c9
          rcases ite_none' h with ⟨c10, h⟩ | ⟨c10, h⟩
          · have m10 : (a0_1.toList == ([45] : List UInt8)) = true := beq_iff_eq.mpr c10
            obtain rfl := Option.some.inj h
            clear h c0 c1 c2 c3 c4 c5 c6 c7 c8 c9 c10
            go_wp2
            go_ret
            exact ⟨by first | rfl | (simp; done) | (simp [*]; done), L3.out⟩
          have m10 : (a0_1.toList == ([45] : List UInt8)) = false := beq_eq_false_iff_ne.mpr c10
          rcases ite_none' h with ⟨c11, h⟩ | ⟨c11, h⟩
          · have m11 : (a0_1.toList == ([42] : List UInt8)) = true := beq_iff_eq.mpr c11
            obtain rfl := Option.some.inj h
            clear h c0 c1 c2 c3 c4 c5 c6 c7 c8 c9 c10 c11
            go_wp2
            go_ret
            exact ⟨by first | rfl | (simp; done) | (simp [*]; done), L3.out⟩
          have m11 : (a0_1.toList == ([42] : List UInt8)) = false := beq_eq_false_iff_ne.mpr c11
          rcases ite_none' h with ⟨c12, h⟩ | ⟨c12, h⟩
          · have m12 : (a0_1.toList == ([47] : List UInt8)) = true := beq_iff_eq.mpr c12
            obtain rfl := Option.some.inj h
            clear h c0 c1 c2 c3 c4 c5 c6 c7 c8 c9 c10 c11 c12
            go_wp2
            go_ret
            exact ⟨by first | rfl | (simp; done) | (simp [*]; done), L3.out⟩
          have m12 : (a0_1.toList == ([47] : List UInt8)) = false := beq_eq_false_iff_ne.mpr c12
          rcases ite_none' h with ⟨c13, h⟩ | ⟨c13, h⟩
          · have m13 : (a0_1.toList == ([37] : List UInt8)) = true := beq_iff_eq.mpr c13
            obtain rfl := Option.some.inj h
            clear h c0 c1 c2 c3 c4 c5 c6 c7 c8 c9 c10 c11 c12 c13
            go_wp2
            go_ret
            exact ⟨by first | rfl | (simp; done) | (simp [*]; done), L3.out⟩
          have m13 : (a0_1.toList == ([37] : List UInt8)) = false := beq_eq_false_iff_ne.mpr c13
          rcases ite_none' h with ⟨c14, h⟩ | ⟨c14, h⟩
          · have m14 : (a0_1.toList == ([61, 61] : List UInt8)) = true := beq_iff_eq.mpr c14
            obtain rfl := Option.some.inj h
            clear h c0 c1 c2 c3 c4 c5 c6 c7 c8 c9 c10 c11 c12 c13 c14
            go_wp2
            go_ret
            exact ⟨by first | rfl | (simp; done) | (simp [*]; done), L3.out⟩
          have m14 : (a0_1.toList == ([61, 61] : List UInt8)) = false := beq_eq_false_iff_ne.mpr c14
          rcases ite_none' h with ⟨c15, h⟩ | ⟨c15, h⟩
          · have m15 : (a0_1.toList == ([33, 61] : List UInt8)) = true := beq_iff_eq.mpr c15
            obtain rfl := Option.some.inj h
            clear h c0 c1 c2 c3 c4 c5 c6 c7 c8 c9 c10 c11 c12 c13 c14 c15
            go_wp2
            go_ret
            exact ⟨by first | rfl | (simp; done) | (simp [*]; done), L3.out⟩
          have m15 : (a0_1.toList == ([33, 61] : List UInt8)) = false := beq_eq_false_iff_ne.mpr c15
          rcases ite_none' h with ⟨c16, h⟩ | ⟨c16, h⟩
          · have m16 : (a0_1.toList == ([60, 61] : List UInt8)) = true := beq_iff_eq.mpr c16
            obtain rfl := Option.some.inj h
            clear h c0 c1 c2 c3 c4 c5 c6 c7 c8 c9 c10 c11 c12 c13 c14 c15 c16
            go_wp2
            go_ret
            exact ⟨by first | rfl | (simp; done) | (simp [*]; done), L3.out⟩
          have m16 : (a0_1.toList == ([60, 61] : List UInt8)) = false := beq_eq_false_iff_ne.mpr c16
          obtain rfl := Option.some.inj h
          clear h c0 c1 c2 c3 c4 c5 c6 c7 c8 c9 c10 c11 c12 c13 c14 c15 c16
          go_wp2
          go_ret
          exact ⟨by first | rfl | (simp; done) | (simp [*]; done), L3.out⟩
        · have e4 : (a0_0 == 4) = false := beq_eq_false_iff_ne.mpr k4
          have H1 := H0.out
          rw [if_neg k4] at H1
          obtain rfl := Option.some.inj H1
          clear H1 H0 k1 k2 k3 k4
          go_wp2
          go_ret
          exact ⟨by first | rfl | (simp; done) | (simp [*]; done), L2.out⟩
end Go.Proofs.YtlbchdalimngjaaDoor.P
namespace Go.Proofs.YtlbchdalimngjaaDoor.P
open Go.RowKit Go.Proofs.YtlbchdalimngjaaDoorW.PrintWords Go.Proofs.YtlbchdalimngjaaDoorW.PrintLast Go.Proofs.YtlbchdalimngjaaDoorW.PrintMore
set_option linter.unusedVariables false
set_option linter.unusedSimpArgs false
def Laid (w : World) : Prop := Lib.TabIs Tryd.prog w "internal/strconv.uint64pow10" .u64 Lib.pow10Tab
theorem Laid.below {w w' : World} (h : Laid w) (hb : Below w.heap.size w w') : Laid w' := Lib.tabBelow_of_tabIs h w' hb
def piece (k : Nat) (x : Tok) : Option (List UInt8) :=
  if x.f0 = 2 then (if 0 ≤ x.f2 ∧ x.f2 ≤ 9223372036854775807 then some (Lib.itoa x.f2) else none) else if x.f0 = 3 then (token_quoted.f k x.f1).bind fun s => some s.data.toList else some x.f1.data.toList
def spellGo (k : Nat) : List Tok → Bool → List UInt8 → Bool → Option (ByteArray × Int)
  | [], _, b, _ => if b.length > 16384 then some (⟨#[]⟩, 2) else some (⟨b.toArray⟩, 0)
  | x :: l, f, b, lg => (token_right.f k x.f0 x.f1 x.f2 x.f3).bind fun ok => if ok = false then some (⟨#[]⟩, 3) else
      if lg = true ∨ b.length > 16384 then spellGo k l false b true else
        (piece k x).bind fun p => if p.length ≤ 1000000 then spellGo k l false (b ++ (if f = true then [] else [32]) ++ p) false else none
def token_Spell.f (k : Nat) (l : List Tok) : Option (ByteArray × Int) := if l.length ≤ 1000000 then spellGo k l true [] false else none
theorem ite_some' {α : Type} {c : Prop} [Decidable c] {a : Option α} {r : α} (h : (if c then a else none) = some r) : c ∧ a = some r := by
  by_cases hc : c
  · rw [if_pos hc] at h; exact ⟨hc, h⟩
  · rw [if_neg hc] at h; cases h
theorem piece_mono (k : Nat) (x : Tok) : LeO (piece k x) (piece (k + 1) x) := LeO.ite (LeO.refl _) (LeO.ite (LeO.bind (token_quoted.mono _ _) fun _ => LeO.refl _) (LeO.refl _))
theorem spellGo_mono (k : Nat) : ∀ l f b lg, LeO (spellGo k l f b lg) (spellGo (k + 1) l f b lg)
  | [], f, b, lg => LeO.refl _
  | x :: l, f, b, lg => by
    rw [spellGo, spellGo]
    exact LeO.bind (token_right.mono _ _ _ _ _) fun ok => LeO.ite (LeO.refl _) (LeO.ite (spellGo_mono k l _ _ _) (LeO.bind (piece_mono _ _) fun p => LeO.ite (spellGo_mono k l _ _ _) (LeO.refl _)))
theorem token_Spell.mono : ∀ l k, LeO (token_Spell.f k l) (token_Spell.f (k + 1) l) := fun l k => LeO.ite (spellGo_mono _ _ _ _ _) (LeO.refl _)
def Bl (w W : World) (b : Nat) (bs : List UInt8) : Prop := IsBl w.heap.size b (Lib.byteCells bs) W ∧ Below w.heap.size w W
section
variable {w W W1 : World} {b : Nat} {bs : List UInt8}
theorem Bl.below (h : Bl w W b bs) (hb : Below W.heap.size W W1) : Bl w W1 b bs := by
  have key : ∀ p, Lib.BuilderAt 56 5 w.heap.size b p (Lib.byteCells bs) W → Lib.BuilderAt 56 5 w.heap.size b p (Lib.byteCells bs) W1 := by
    rintro p ⟨h1, v, h2, h3, h4⟩
    exact ⟨h1, v, blk_below h2 hb, own_move h3 (fun k hk => hb.block k (own_lt h3 k hk)), h4⟩
  exact ⟨h.1.elim (fun x => .inl (key _ x)) (fun x => .inr (key _ x)), below_step h.2 hb⟩
theorem Bl.two (h : Bl w W b bs) : Below w.heap.size w W := h.2
theorem bs_len (h : Bl w W b bs) : Calls Tryd.prog 32 #[.pointer (some ⟨b, 0, none⟩)] W fun e w' => e = .returned (.int .i64 (bs.length : Int)) ∧ W = w' :=
  (Tryd.Builder_Len _ _ _ _ h.1).mono fun e w' ⟨h1, h2⟩ => ⟨by rw [h1, Lib.byteCells_length], h2.symm⟩
theorem bs_byte (h : Bl w W b bs) (hl : bs.length ≤ 100000000) : Calls Tryd.prog 33 #[.pointer (some ⟨b, 0, none⟩), .int .u8 32] W fun e w' => e = .returned .nilIface ∧ Bl w w' b (bs ++ [32]) ∧ KpU W w' b :=
  (bl_byte 32 h.1 (by rw [Lib.byteCells_length]; omega) h.2.size).mono fun e w' ⟨h1, h2, h3, h4⟩ => ⟨h1, ⟨by simpa [Lib.byteCells] using h2, below_weaken h.2 (Nat.le_refl _) h3⟩, h4⟩
theorem bs_str (s : ByteArray) (h : Bl w W b bs) (hl : bs.length ≤ 100000000) (hs : s.size ≤ 1000000) : Calls Tryd.prog 34 #[.pointer (some ⟨b, 0, none⟩), .string s] W fun e w' => e = .returned (.tuple #[.int .i64 s.size, .nilIface]) ∧ Bl w w' b (bs ++ s.data.toList) ∧ KpU W w' b :=
  (bl_str s h.1 (by rw [Lib.byteCells_length]; omega) h.2.size).mono fun e w' ⟨h1, h2, h3, h4⟩ => ⟨h1, ⟨by simpa [Lib.byteCells, Lib.strCells] using h2, below_weaken h.2 (Nat.le_refl _) h3⟩, h4⟩
theorem bs_string (h : Bl w W b bs) : Calls Tryd.prog 37 #[.pointer (some ⟨b, 0, none⟩)] W fun e w' => e = .returned (.string ⟨bs.toArray⟩) ∧ Below w.heap.size W w' := Tryd.Builder_String_any _ _ _ _ h.1 h.2.size
theorem bs_int (n : Int) (h0 : 0 ≤ n) (h1 : n ≤ 9223372036854775807) (hL : Laid W) : Calls Tryd.prog 35 #[.int .i64 n, .int .i64 10] W fun e w' => e = .returned (.string ⟨(Lib.itoa n).toArray⟩) ∧ Below W.heap.size W w' :=
  (Tryd.strconv_FormatInt_10 n (by omega) h1 W hL).mono fun e w' ⟨h1, k, os, h2⟩ => ⟨h1, by rw [h2]; exact Lib.below_grow _ _ (Nat.le_refl _) _ _⟩
end
set_option maxHeartbeats 16000000 in
set_option maxRecDepth 100000 in
theorem token_Spell.calls (k : Nat) (A0 : Option Addr) (c0 : Nat) (l0 : List Tok) (r1 : ByteArray) (r2 : Int) (w : World) (hL : Laid w) (hr0 : Kd.C k40 w A0 l0.length l0) (hc0 : l0.length ≤ c0) (h : token_Spell.f k l0 = some (r1, r2)) :
    Calls Tryd.prog 11 #[.slice A0 l0.length c0] w fun e w' => e = .returned (.tuple #[.string r1, .int .i64 r2]) ∧ Below w.heap.size w w' := by
  unfold token_Spell.f at h
  rcases ite_some' h with ⟨hn, h⟩
  have H := Aside0.mk h
  have HN := Aside0.mk hn
  have HLD := Aside0.mk hL
  have HR0 := Aside0.mk hr0
  clear h hn hL hr0 hc0
  go_enter Tryd.func11, Tryd.ntmps11
  go_upto_region 2 with (fail)
  obtain ⟨b4, hbb⟩ : ∃ b, b = w.heap.size := ⟨_, rfl⟩
  obtain ⟨w1, hww⟩ : ∃ W_ : World, W_ = w.alloc (.cells #[.pointer none, .slice none 0 0] 56 (0, 0)) := ⟨_, rfl⟩
  have L1 := Aside0.mk (show Bl w w1 b4 [] by
    rw [hww, hbb]
    exact ⟨.inl ⟨Nat.le_refl _, _, blk_new _ _, own_nil _ _ _ _, by simp [Value.ownBlock]⟩, below_alloc (Below.refl _ _) _⟩)
  rw [← hww, ← hbb]
  clear hww hbb
  go_wp2
  go_loopw [5, 10] (fun lgv i wr => ∃ (j : Nat) (bs : List UInt8) (lg : Bool), i = .int .i64 (j : Int) ∧ lgv = .bool lg ∧ Aside0 (j ≤ l0.length) ∧ Aside0 (spellGo k (l0.drop j) (decide (j = 0)) bs lg = some (r1, r2)) ∧ Aside0 (bs.length ≤ 2000000) ∧ Aside0 (Bl w wr b4 bs)) (fun _ i _ => l0.length - (intOf i).toNat)
  case atStart => exact ⟨0, [], false, rfl, rfl, ⟨Nat.zero_le _⟩, H, ⟨by simp⟩, L1⟩
  case round =>
    clear H L1
    obtain ⟨j, bs, lg, rfl, rfl, HJ, HG, HBQ, L4⟩ := hrel
    by_cases hlt : j < l0.length
    · obtain ⟨x, hx⟩ : ∃ x, l0[j]? = some x := ⟨_, List.getElem?_eq_getElem hlt⟩
      have hd : l0.drop j = x :: l0.drop (j + 1) := by
        rw [List.drop_eq_getElem_cons hlt]
        rw [List.getElem?_eq_getElem hlt] at hx
        rw [Option.some.inj hx]
      have hg := HG.out
      rw [hd, spellGo] at hg
      obtain ⟨ok, ht, hg⟩ := Option.bind_eq_some_iff.1 hg
      have HT := Aside0.mk ht
      have HG := Aside0.mk hg
      have c1 : decide (j < l0.length) = true := decide_eq_true hlt
      have q1 : (j < l0.length) = True := eq_true hlt
      have HLT := Aside0.mk hlt
      obtain ⟨ad, rfl, p0, p1, p2, p3⟩ := at_T40 (Kd.C_below HR0.out L4.out.2) (j : Int) (by omega) (by omega)
      have hrd : rd_T40 l0 (j : Int) = x := by
        unfold rd_T40
        rw [List.getD_eq_getElem?_getD, Int.toNat_natCast, hx]
        rfl
      rw [hrd, Int.toNat_natCast] at p0 p1 p2 p3
      have cj : (j : Int) ≤ 1000000 := by have := HN.out; omega
      clear hd hx ht hg hrd hlt
      go_upto_region 6 with (fail)
      obtain ⟨b7, hbb⟩ : ∃ b, b = wr.heap.size := ⟨_, rfl⟩
      obtain ⟨w5, hww⟩ : ∃ W_ : World, W_ = wr.alloc (.cells #[.int .u8 x.f0, .string x.f1, .int .i64 x.f2, .int .i64 x.f3] 40 (0, 0)) := ⟨_, rfl⟩
      have L5 := Aside0.mk (show Bl w w5 b4 bs by rw [hww]; exact L4.out.below (below_alloc (Below.refl _ _) _))
      have X5 := Aside0.mk (show w5.heap[b7]? = some (.cells #[.int .u8 x.f0, .string x.f1, .int .i64 x.f2, .int .i64 x.f3] 40 (0, 0)) by rw [hww, hbb]; exact blk_new _ _)
      have Y7 := Aside0.mk (show b7 ≠ b4 by
        have hq : b4 < wr.heap.size := by rcases L4.out.1 with h | h <;> exact h.lt
        omega)
      rw [← hww, ← hbb]
      clear hww hbb p0 p1 p2 p3
      have hx5_0 : w5.cell? ⟨b7, 0, none⟩ = some (.int .u8 x.f0) := (blk_cell X5.out 0).trans rfl
      have hx5_1 : w5.cell? ⟨b7, 1, none⟩ = some (.string x.f1) := (blk_cell X5.out 1).trans rfl
      have hx5_2 : w5.cell? ⟨b7, 2, none⟩ = some (.int .i64 x.f2) := (blk_cell X5.out 2).trans rfl
      have hx5_3 : w5.cell? ⟨b7, 3, none⟩ = some (.int .i64 x.f3) := (blk_cell X5.out 3).trans rfl
      by_cases hok : ok = false
      · subst hok
        have hg := HG.out
        rw [if_pos rfl] at hg
        cases hg
        clear hg HG
        go_wp2_with (first | (go_at_call 31; (with_reducible refine (token_right.calls k x.f0 x.f1 x.f2 x.f3 false _ HT.out).mono ?_); rintro e w6 ⟨rfl, hb⟩; have L6 := Aside0.mk (L5.out.below hb); have X6 := Aside0.mk (blk_below X5.out hb); have hx6_0 : w6.cell? ⟨b7, 0, none⟩ = some (.int .u8 x.f0) := (blk_cell X6.out 0).trans rfl; have hx6_1 : w6.cell? ⟨b7, 1, none⟩ = some (.string x.f1) := (blk_cell X6.out 1).trans rfl; have hx6_2 : w6.cell? ⟨b7, 2, none⟩ = some (.int .i64 x.f2) := (blk_cell X6.out 2).trans rfl; clear hb))
        go_ret2
        exact ⟨rfl, L6.out.2⟩
      · obtain rfl : ok = true := by simpa using hok
        have hg := HG.out
        rw [if_neg (by decide)] at hg
        have HG := Aside0.mk hg
        clear hok hg
        by_cases hlg : lg = true
        · subst hlg
          have hg := HG.out
          rw [if_pos (Or.inl rfl)] at hg
          have HG := Aside0.mk hg
          clear hg
          go_wp2_with (first | (go_at_call 31; (with_reducible refine (token_right.calls k x.f0 x.f1 x.f2 x.f3 true _ HT.out).mono ?_); rintro e w6 ⟨rfl, hb⟩; have L6 := Aside0.mk (L5.out.below hb); have X6 := Aside0.mk (blk_below X5.out hb); have hx6_0 : w6.cell? ⟨b7, 0, none⟩ = some (.int .u8 x.f0) := (blk_cell X6.out 0).trans rfl; have hx6_1 : w6.cell? ⟨b7, 1, none⟩ = some (.string x.f1) := (blk_cell X6.out 1).trans rfl; have hx6_2 : w6.cell? ⟨b7, 2, none⟩ = some (.int .i64 x.f2) := (blk_cell X6.out 2).trans rfl; clear hb))
          go_roundw
          case rel => exact ⟨j + 1, bs, true, by go_num, rfl, ⟨by have := HLT.out; omega⟩, (by rw [show decide (j + 1 = 0) = false by simp]; exact HG), ⟨HBQ.out⟩, L6⟩
          case measure => have := HLT.out; simp [intOf]; omega
        · obtain rfl : lg = false := by simpa using hlg
          by_cases hbl : 16384 < bs.length
          · have c2 : decide ((16384 : Int) < (bs.length : Int)) = true := decide_eq_true (by omega)
            have hg := HG.out
            rw [if_pos (Or.inr hbl)] at hg
            have HG := Aside0.mk hg
            clear hg hlg hbl
            go_wp2_with (first | (go_at_call 31; (with_reducible refine (token_right.calls k x.f0 x.f1 x.f2 x.f3 true _ HT.out).mono ?_); rintro e w6 ⟨rfl, hb⟩; have L6 := Aside0.mk (L5.out.below hb); have X6 := Aside0.mk (blk_below X5.out hb); have hx6_0 : w6.cell? ⟨b7, 0, none⟩ = some (.int .u8 x.f0) := (blk_cell X6.out 0).trans rfl; have hx6_1 : w6.cell? ⟨b7, 1, none⟩ = some (.string x.f1) := (blk_cell X6.out 1).trans rfl; have hx6_2 : w6.cell? ⟨b7, 2, none⟩ = some (.int .i64 x.f2) := (blk_cell X6.out 2).trans rfl; clear hb) | (go_at_call 32; (with_reducible refine (bs_len L6.out).mono ?_); rintro e w' ⟨rfl, rfl⟩))
            go_roundw
            case rel => exact ⟨j + 1, bs, true, by go_num, rfl, ⟨by have := HLT.out; omega⟩, (by rw [show decide (j + 1 = 0) = false by simp]; exact HG), ⟨HBQ.out⟩, L6⟩
            case measure => have := HLT.out; simp [intOf]; omega
          · have c2 : decide ((16384 : Int) < (bs.length : Int)) = false := decide_eq_false (by omega)
            have hg := HG.out
            rw [if_neg (by simpa using Nat.le_of_not_lt hbl)] at hg
            obtain ⟨p, hp, hg⟩ := Option.bind_eq_some_iff.1 hg
            rcases ite_some' hg with ⟨hps, hg⟩
            have HG := Aside0.mk hg
            have HP := Aside0.mk hp
            have HPS := Aside0.mk hps
            have HBL := Aside0.mk (show bs.length ≤ 16384 by omega)
            clear hp hps hg hlg hbl
            by_cases h2 : x.f0 = 2
            · have e2 : (x.f0 == 2) = true := by simpa using h2
              have hp := HP.out
              rw [piece, if_pos h2] at hp
              obtain ⟨hr, hq⟩ := ite_some' hp
              obtain rfl := Option.some.inj hq
              have HR := Aside0.mk hr
              have HS := Aside0.mk (show (⟨(Lib.itoa x.f2).toArray⟩ : ByteArray).size ≤ 1000000 by have := HPS.out; rw [ByteArray.size, List.size_toArray]; exact this)
              clear h2 hp hr hq
              by_cases hj : j = 0
              · have c3 : decide (0 < j) = false := decide_eq_false (by omega)
                have HJ0 := Aside0.mk hj
                have HF := Aside0.mk (show decide (j = 0) = true by simp [hj])
                clear hj
                go_wp2_with (first | (go_at_call 31; (with_reducible refine (token_right.calls k x.f0 x.f1 x.f2 x.f3 true _ HT.out).mono ?_); rintro e w6 ⟨rfl, hb⟩; have L6 := Aside0.mk (L5.out.below hb); have X6 := Aside0.mk (blk_below X5.out hb); have hx6_0 : w6.cell? ⟨b7, 0, none⟩ = some (.int .u8 x.f0) := (blk_cell X6.out 0).trans rfl; have hx6_1 : w6.cell? ⟨b7, 1, none⟩ = some (.string x.f1) := (blk_cell X6.out 1).trans rfl; have hx6_2 : w6.cell? ⟨b7, 2, none⟩ = some (.int .i64 x.f2) := (blk_cell X6.out 2).trans rfl; clear hb) | (go_at_call 32; (with_reducible refine (bs_len L6.out).mono ?_); rintro e w' ⟨rfl, rfl⟩) | (go_at_call 35; (with_reducible refine (bs_int x.f2 HR.out.1 HR.out.2 (HLD.out.below L6.out.two)).mono ?_); rintro e w7 ⟨rfl, hb⟩; have L7 := Aside0.mk (L6.out.below hb); clear hb) | (go_at_call 34; (with_reducible refine (bs_str ⟨(Lib.itoa x.f2).toArray⟩ L7.out (by have := HBL.out; omega) (by have := HS.out; exact this)).mono ?_); rintro e w8 ⟨rfl, hi, hk⟩; have L8 := Aside0.mk hi; clear hi hk))
                go_roundw
                case rel => exact ⟨j + 1, (bs ++ (⟨(Lib.itoa x.f2).toArray⟩ : ByteArray).data.toList), false, by go_num, rfl, ⟨by have := HLT.out; omega⟩, (by have h := HG.out; rw [HF.out] at h; exact ⟨by rw [show decide (j + 1 = 0) = false by simp]; simpa using h⟩), ⟨by have h1 : ((⟨(Lib.itoa x.f2).toArray⟩ : ByteArray).data.toList).length ≤ 1000000 := (by rw [Array.length_toList]; exact HS.out); have h2 := HBL.out; generalize (⟨(Lib.itoa x.f2).toArray⟩ : ByteArray).data.toList = ys at h1 ⊢; simp only [List.length_append, List.length_singleton]; omega⟩, L8⟩
                case measure => have := HLT.out; simp [intOf]; omega
              · have c3 : decide (0 < j) = true := decide_eq_true (by omega)
                have HJ0 := Aside0.mk hj
                have HF := Aside0.mk (show decide (j = 0) = false by simp [hj])
                clear hj
                go_wp2_with (first | (go_at_call 31; (with_reducible refine (token_right.calls k x.f0 x.f1 x.f2 x.f3 true _ HT.out).mono ?_); rintro e w6 ⟨rfl, hb⟩; have L6 := Aside0.mk (L5.out.below hb); have X6 := Aside0.mk (blk_below X5.out hb); have hx6_0 : w6.cell? ⟨b7, 0, none⟩ = some (.int .u8 x.f0) := (blk_cell X6.out 0).trans rfl; have hx6_1 : w6.cell? ⟨b7, 1, none⟩ = some (.string x.f1) := (blk_cell X6.out 1).trans rfl; have hx6_2 : w6.cell? ⟨b7, 2, none⟩ = some (.int .i64 x.f2) := (blk_cell X6.out 2).trans rfl; clear hb) | (go_at_call 32; (with_reducible refine (bs_len L6.out).mono ?_); rintro e w' ⟨rfl, rfl⟩) | (go_at_call 33; (with_reducible refine (bs_byte L6.out (by have := HBL.out; omega)).mono ?_); rintro e w7 ⟨rfl, hi, hk⟩; have L7 := Aside0.mk hi; have X7 := Aside0.mk (hk.blk X6.out Y7.out (by decide)); have hx7_0 : w7.cell? ⟨b7, 0, none⟩ = some (.int .u8 x.f0) := (blk_cell X7.out 0).trans rfl; have hx7_1 : w7.cell? ⟨b7, 1, none⟩ = some (.string x.f1) := (blk_cell X7.out 1).trans rfl; have hx7_2 : w7.cell? ⟨b7, 2, none⟩ = some (.int .i64 x.f2) := (blk_cell X7.out 2).trans rfl; clear hi hk) | (go_at_call 35; (with_reducible refine (bs_int x.f2 HR.out.1 HR.out.2 (HLD.out.below L7.out.two)).mono ?_); rintro e w8 ⟨rfl, hb⟩; have L8 := Aside0.mk (L7.out.below hb); clear hb) | (go_at_call 34; (with_reducible refine (bs_str ⟨(Lib.itoa x.f2).toArray⟩ L8.out (by have := HBL.out; simp only [List.length_append, List.length_singleton]; omega) (by have := HS.out; exact this)).mono ?_); rintro e w9 ⟨rfl, hi, hk⟩; have L9 := Aside0.mk hi; clear hi hk))
                go_roundw
                case rel => exact ⟨j + 1, (bs ++ [32] ++ (⟨(Lib.itoa x.f2).toArray⟩ : ByteArray).data.toList), false, by go_num, rfl, ⟨by have := HLT.out; omega⟩, (by have h := HG.out; rw [HF.out] at h; exact ⟨by rw [show decide (j + 1 = 0) = false by simp]; simpa using h⟩), ⟨by have h1 : ((⟨(Lib.itoa x.f2).toArray⟩ : ByteArray).data.toList).length ≤ 1000000 := (by rw [Array.length_toList]; exact HS.out); have h2 := HBL.out; generalize (⟨(Lib.itoa x.f2).toArray⟩ : ByteArray).data.toList = ys at h1 ⊢; simp only [List.length_append, List.length_singleton]; omega⟩, L9⟩
                case measure => have := HLT.out; simp [intOf]; omega
            · by_cases h3 : x.f0 = 3
              · have e3 : (x.f0 == 3) = true := by simpa using h3
                have e2 : (x.f0 == 2) = false := by simp [h3]
                have hp := HP.out
                rw [piece, if_neg (by omega), if_pos h3] at hp
                obtain ⟨qs, hq, hp⟩ := Option.bind_eq_some_iff.1 hp
                obtain rfl := Option.some.inj hp
                have HQ := Aside0.mk hq
                have HS := Aside0.mk (show qs.size ≤ 1000000 by have := HPS.out; rw [Array.length_toList] at this; exact this)
                clear h3 hp hq
                by_cases hj : j = 0
                · have c3 : decide (0 < j) = false := decide_eq_false (by omega)
                  have HJ0 := Aside0.mk hj
                  have HF := Aside0.mk (show decide (j = 0) = true by simp [hj])
                  clear hj
                  go_wp2_with (first | (go_at_call 31; (with_reducible refine (token_right.calls k x.f0 x.f1 x.f2 x.f3 true _ HT.out).mono ?_); rintro e w6 ⟨rfl, hb⟩; have L6 := Aside0.mk (L5.out.below hb); have X6 := Aside0.mk (blk_below X5.out hb); have hx6_0 : w6.cell? ⟨b7, 0, none⟩ = some (.int .u8 x.f0) := (blk_cell X6.out 0).trans rfl; have hx6_1 : w6.cell? ⟨b7, 1, none⟩ = some (.string x.f1) := (blk_cell X6.out 1).trans rfl; have hx6_2 : w6.cell? ⟨b7, 2, none⟩ = some (.int .i64 x.f2) := (blk_cell X6.out 2).trans rfl; clear hb) | (go_at_call 32; (with_reducible refine (bs_len L6.out).mono ?_); rintro e w' ⟨rfl, rfl⟩) | (go_at_call 36; (with_reducible refine (token_quoted.calls k x.f1 qs _ HQ.out).mono ?_); rintro e w7 ⟨rfl, hb⟩; have L7 := Aside0.mk (L6.out.below hb); clear hb) | (go_at_call 34; (with_reducible refine (bs_str qs L7.out (by have := HBL.out; omega) (by have := HS.out; exact this)).mono ?_); rintro e w8 ⟨rfl, hi, hk⟩; have L8 := Aside0.mk hi; clear hi hk))
                  go_roundw
                  case rel => exact ⟨j + 1, (bs ++ qs.data.toList), false, by go_num, rfl, ⟨by have := HLT.out; omega⟩, (by have h := HG.out; rw [HF.out] at h; exact ⟨by rw [show decide (j + 1 = 0) = false by simp]; simpa using h⟩), ⟨by have h1 : ((qs : ByteArray).data.toList).length ≤ 1000000 := (by rw [Array.length_toList]; exact HS.out); have h2 := HBL.out; generalize (qs : ByteArray).data.toList = ys at h1 ⊢; simp only [List.length_append, List.length_singleton]; omega⟩, L8⟩
                  case measure => have := HLT.out; simp [intOf]; omega
                · have c3 : decide (0 < j) = true := decide_eq_true (by omega)
                  have HJ0 := Aside0.mk hj
                  have HF := Aside0.mk (show decide (j = 0) = false by simp [hj])
                  clear hj
                  go_wp2_with (first | (go_at_call 31; (with_reducible refine (token_right.calls k x.f0 x.f1 x.f2 x.f3 true _ HT.out).mono ?_); rintro e w6 ⟨rfl, hb⟩; have L6 := Aside0.mk (L5.out.below hb); have X6 := Aside0.mk (blk_below X5.out hb); have hx6_0 : w6.cell? ⟨b7, 0, none⟩ = some (.int .u8 x.f0) := (blk_cell X6.out 0).trans rfl; have hx6_1 : w6.cell? ⟨b7, 1, none⟩ = some (.string x.f1) := (blk_cell X6.out 1).trans rfl; have hx6_2 : w6.cell? ⟨b7, 2, none⟩ = some (.int .i64 x.f2) := (blk_cell X6.out 2).trans rfl; clear hb) | (go_at_call 32; (with_reducible refine (bs_len L6.out).mono ?_); rintro e w' ⟨rfl, rfl⟩) | (go_at_call 33; (with_reducible refine (bs_byte L6.out (by have := HBL.out; omega)).mono ?_); rintro e w7 ⟨rfl, hi, hk⟩; have L7 := Aside0.mk hi; have X7 := Aside0.mk (hk.blk X6.out Y7.out (by decide)); have hx7_0 : w7.cell? ⟨b7, 0, none⟩ = some (.int .u8 x.f0) := (blk_cell X7.out 0).trans rfl; have hx7_1 : w7.cell? ⟨b7, 1, none⟩ = some (.string x.f1) := (blk_cell X7.out 1).trans rfl; have hx7_2 : w7.cell? ⟨b7, 2, none⟩ = some (.int .i64 x.f2) := (blk_cell X7.out 2).trans rfl; clear hi hk) | (go_at_call 36; (with_reducible refine (token_quoted.calls k x.f1 qs _ HQ.out).mono ?_); rintro e w8 ⟨rfl, hb⟩; have L8 := Aside0.mk (L7.out.below hb); clear hb) | (go_at_call 34; (with_reducible refine (bs_str qs L8.out (by have := HBL.out; simp only [List.length_append, List.length_singleton]; omega) (by have := HS.out; exact this)).mono ?_); rintro e w9 ⟨rfl, hi, hk⟩; have L9 := Aside0.mk hi; clear hi hk))
                  go_roundw
                  case rel => exact ⟨j + 1, (bs ++ [32] ++ qs.data.toList), false, by go_num, rfl, ⟨by have := HLT.out; omega⟩, (by have h := HG.out; rw [HF.out] at h; exact ⟨by rw [show decide (j + 1 = 0) = false by simp]; simpa using h⟩), ⟨by have h1 : ((qs : ByteArray).data.toList).length ≤ 1000000 := (by rw [Array.length_toList]; exact HS.out); have h2 := HBL.out; generalize (qs : ByteArray).data.toList = ys at h1 ⊢; simp only [List.length_append, List.length_singleton]; omega⟩, L9⟩
                  case measure => have := HLT.out; simp [intOf]; omega
              · have e3 : (x.f0 == 3) = false := by simpa using h3
                have e2 : (x.f0 == 2) = false := by simpa using h2
                have hp := HP.out
                rw [piece, if_neg h2, if_neg h3] at hp
                obtain rfl := Option.some.inj hp
                have HS := Aside0.mk (show x.f1.size ≤ 1000000 by have := HPS.out; rw [Array.length_toList] at this; exact this)
                clear h2 h3 hp
                by_cases hj : j = 0
                · have c3 : decide (0 < j) = false := decide_eq_false (by omega)
                  have HJ0 := Aside0.mk hj
                  have HF := Aside0.mk (show decide (j = 0) = true by simp [hj])
                  clear hj
                  go_wp2_with (first | (go_at_call 31; (with_reducible refine (token_right.calls k x.f0 x.f1 x.f2 x.f3 true _ HT.out).mono ?_); rintro e w6 ⟨rfl, hb⟩; have L6 := Aside0.mk (L5.out.below hb); have X6 := Aside0.mk (blk_below X5.out hb); have hx6_0 : w6.cell? ⟨b7, 0, none⟩ = some (.int .u8 x.f0) := (blk_cell X6.out 0).trans rfl; have hx6_1 : w6.cell? ⟨b7, 1, none⟩ = some (.string x.f1) := (blk_cell X6.out 1).trans rfl; have hx6_2 : w6.cell? ⟨b7, 2, none⟩ = some (.int .i64 x.f2) := (blk_cell X6.out 2).trans rfl; clear hb) | (go_at_call 32; (with_reducible refine (bs_len L6.out).mono ?_); rintro e w' ⟨rfl, rfl⟩) | (go_at_call 34; (with_reducible refine (bs_str x.f1 L6.out (by have := HBL.out; omega) (by have := HS.out; exact this)).mono ?_); rintro e w7 ⟨rfl, hi, hk⟩; have L7 := Aside0.mk hi; clear hi hk))
                  go_roundw
                  case rel => exact ⟨j + 1, (bs ++ x.f1.data.toList), false, by go_num, rfl, ⟨by have := HLT.out; omega⟩, (by have h := HG.out; rw [HF.out] at h; exact ⟨by rw [show decide (j + 1 = 0) = false by simp]; simpa using h⟩), ⟨by have h1 : ((x.f1 : ByteArray).data.toList).length ≤ 1000000 := (by rw [Array.length_toList]; exact HS.out); have h2 := HBL.out; generalize (x.f1 : ByteArray).data.toList = ys at h1 ⊢; simp only [List.length_append, List.length_singleton]; omega⟩, L7⟩
                  case measure => have := HLT.out; simp [intOf]; omega
                · have c3 : decide (0 < j) = true := decide_eq_true (by omega)
                  have HJ0 := Aside0.mk hj
                  have HF := Aside0.mk (show decide (j = 0) = false by simp [hj])
                  clear hj
                  go_wp2_with (first | (go_at_call 31; (with_reducible refine (token_right.calls k x.f0 x.f1 x.f2 x.f3 true _ HT.out).mono ?_); rintro e w6 ⟨rfl, hb⟩; have L6 := Aside0.mk (L5.out.below hb); have X6 := Aside0.mk (blk_below X5.out hb); have hx6_0 : w6.cell? ⟨b7, 0, none⟩ = some (.int .u8 x.f0) := (blk_cell X6.out 0).trans rfl; have hx6_1 : w6.cell? ⟨b7, 1, none⟩ = some (.string x.f1) := (blk_cell X6.out 1).trans rfl; have hx6_2 : w6.cell? ⟨b7, 2, none⟩ = some (.int .i64 x.f2) := (blk_cell X6.out 2).trans rfl; clear hb) | (go_at_call 32; (with_reducible refine (bs_len L6.out).mono ?_); rintro e w' ⟨rfl, rfl⟩) | (go_at_call 33; (with_reducible refine (bs_byte L6.out (by have := HBL.out; omega)).mono ?_); rintro e w7 ⟨rfl, hi, hk⟩; have L7 := Aside0.mk hi; have X7 := Aside0.mk (hk.blk X6.out Y7.out (by decide)); have hx7_0 : w7.cell? ⟨b7, 0, none⟩ = some (.int .u8 x.f0) := (blk_cell X7.out 0).trans rfl; have hx7_1 : w7.cell? ⟨b7, 1, none⟩ = some (.string x.f1) := (blk_cell X7.out 1).trans rfl; have hx7_2 : w7.cell? ⟨b7, 2, none⟩ = some (.int .i64 x.f2) := (blk_cell X7.out 2).trans rfl; clear hi hk) | (go_at_call 34; (with_reducible refine (bs_str x.f1 L7.out (by have := HBL.out; simp only [List.length_append, List.length_singleton]; omega) (by have := HS.out; exact this)).mono ?_); rintro e w8 ⟨rfl, hi, hk⟩; have L8 := Aside0.mk hi; clear hi hk))
                  go_roundw
                  case rel => exact ⟨j + 1, (bs ++ [32] ++ x.f1.data.toList), false, by go_num, rfl, ⟨by have := HLT.out; omega⟩, (by have h := HG.out; rw [HF.out] at h; exact ⟨by rw [show decide (j + 1 = 0) = false by simp]; simpa using h⟩), ⟨by have h1 : ((x.f1 : ByteArray).data.toList).length ≤ 1000000 := (by rw [Array.length_toList]; exact HS.out); have h2 := HBL.out; generalize (x.f1 : ByteArray).data.toList = ys at h1 ⊢; simp only [List.length_append, List.length_singleton]; omega⟩, L8⟩
                  case measure => have := HLT.out; simp [intOf]; omega
    · have c1 : decide (j < l0.length) = false := decide_eq_false hlt
      have hg := HG.out
      rw [List.drop_eq_nil_of_le (by omega), spellGo] at hg
      have HG := Aside0.mk hg
      clear hlt hg
      by_cases hbl : 16384 < bs.length
      · have c2 : decide ((16384 : Int) < (bs.length : Int)) = true := decide_eq_true (by omega)
        have hg := HG.out
        rw [if_pos hbl] at hg
        cases hg
        clear HG hbl
        go_wp2_with (first | (go_at_call 32; (with_reducible refine (bs_len L4.out).mono ?_); rintro e w' ⟨rfl, rfl⟩))
        go_ret2
        exact ⟨rfl, L4.out.2⟩
      · have c2 : decide ((16384 : Int) < (bs.length : Int)) = false := decide_eq_false (by omega)
        have hg := HG.out
        rw [if_neg hbl] at hg
        cases hg
        clear HG hbl
        go_wp2_with (first | (go_at_call 32; (with_reducible refine (bs_len L4.out).mono ?_); rintro e w' ⟨rfl, rfl⟩) | (go_at_call 37; (with_reducible refine (bs_string L4.out).mono ?_); rintro e w9 ⟨rfl, hb⟩; have L9 := Aside0.mk (below_weaken L4.out.two (Nat.le_refl _) hb); clear hb))
        go_ret2
        exact ⟨rfl, L9.out⟩
end Go.Proofs.YtlbchdalimngjaaDoor.P
namespace Go.Proofs.YtlbchdalimngjaaDoor.P
open Go.RowKit Go.Proofs.YtlbchdalimngjaaDoorW.PrintWords Go.Proofs.YtlbchdalimngjaaDoorW.PrintLast Go.Proofs.YtlbchdalimngjaaDoorW.PrintMore
attribute [local go_sem] max2_int min2_int max_two min_two max_three min_three max_four min_four
set_option linter.unusedVariables false
set_option linter.unusedSimpArgs false
def prompterlaw07_TokenBack.f (k : Nat) (l0 : List (S40)) : Option (Bool) := if (l0.length : Int) > 10000 then ((prompterlaw07_wakes.f k).bind fun t275 => (some t275)) else ((token_Spell.f k l0).bind fun bt276 => (if bt276.2 = 0 then ((token_All.f k bt276.1).bind fun bt280 => (if bt280.2.2 = 0 then (if bt280.2.1 = 0 then ((prompterlaw07_bare.f k bt280.1).bind fun t285 => ((prompterlaw07_bare.f k l0).bind fun t288 => ((prompterlaw07_Alike.f k t285 t288).bind fun t291 => (if t291 = true then ((prompterlaw07_wakes.f k).bind fun t292 => (some t292)) else (some false))))) else (some false)) else (some false))) else (if bt276.1.toList = ([] : List UInt8) then (if bt276.2 = 3 then ((prompterlaw07_wakes.f k).bind fun t278 => (some t278)) else (if bt276.2 = 2 then ((prompterlaw07_wakes.f k).bind fun t279 => (some t279)) else (some false))) else (some false))))
theorem prompterlaw07_TokenBack.mono : ∀ a0 k, LeO (prompterlaw07_TokenBack.f k a0) (prompterlaw07_TokenBack.f (k + 1) a0) := by
  intro a0 k
  unfold prompterlaw07_TokenBack.f
  repeat' first
      | (with_reducible exact prompterlaw07_Alike.mono _ _ _)
      | (with_reducible exact prompterlaw07_bare.mono _ _)
      | (with_reducible exact prompterlaw07_wakes.mono _)
      | (with_reducible exact token_All.mono _ _)
      | (with_reducible exact token_Spell.mono _ _)
      | (with_reducible exact LeO.refl _)
      | (with_reducible exact LeO.none _)
      | (with_reducible refine LeO.ite ?_ ?_)
      | (with_reducible refine LeO.bind ?_ (fun _ => ?_))
      | exact prompterlaw07_Alike.mono _ _ _
      | exact prompterlaw07_bare.mono _ _
      | exact prompterlaw07_wakes.mono _
      | exact token_All.mono _ _
      | exact token_Spell.mono _ _
      | exact LeO.none _
      | refine LeO.ite ?_ ?_
      | refine LeO.bind ?_ (fun _ => ?_)
set_option maxHeartbeats 8000000 in
set_option maxRecDepth 100000 in
theorem prompterlaw07_TokenBack.calls (k : Nat) (A0 : Option Addr) (c0 : Nat) (l0 : List (S40)) (r : Bool) (w : World) (hL : Laid w) (hr0 : Kd.C k40 w A0 l0.length l0) (hc0 : l0.length ≤ c0) (h : prompterlaw07_TokenBack.f k l0 = some r) :
    Calls Tryd.prog 4 #[.slice A0 l0.length c0] w fun e w' => e = .returned (.bool r) ∧ Below w.heap.size w w' := by
  have HR0 := Aside0.mk hr0
  have HC0 := Aside0.mk hc0
  clear hr0 hc0
  have HLD := Aside0.mk hL
  clear hL
  have HB := Aside0.mk (Below.refl w.heap.size w)
  have H : (if (l0.length : Int) > 10000 then ((prompterlaw07_wakes.f k).bind fun t275 => (some t275)) else ((token_Spell.f k l0).bind fun bt276 => (if bt276.2 = 0 then ((token_All.f k bt276.1).bind fun bt280 => (if bt280.2.2 = 0 then (if bt280.2.1 = 0 then ((prompterlaw07_bare.f k bt280.1).bind fun t285 => ((prompterlaw07_bare.f k l0).bind fun t288 => ((prompterlaw07_Alike.f k t285 t288).bind fun t291 => (if t291 = true then ((prompterlaw07_wakes.f k).bind fun t292 => (some t292)) else (some false))))) else (some false)) else (some false))) else (if bt276.1.toList = ([] : List UInt8) then (if bt276.2 = 3 then ((prompterlaw07_wakes.f k).bind fun t278 => (some t278)) else (if bt276.2 = 2 then ((prompterlaw07_wakes.f k).bind fun t279 => (some t279)) else (some false))) else (some false))))) = some r := h
  clear h
  by_cases c2 : (l0.length : Int) > 10000
  · rw [if_pos c2] at H
    have c2b0 : decide (10000 < (l0.length : Int)) = true := decide_eq_true c2
    have c2b1 : decide (10000 < l0.length) = true := decide_eq_true (by omega)
    clear c2
    replace H := Option.bind_eq_some_iff.mp H
    obtain ⟨t275, A30, H⟩ := H
    replace H : (some t275) = some r := H
    have A3 := Aside0.mk A30
    clear A30
    obtain rfl := Option.some.inj H
    go_enter Tryd.func4, Tryd.ntmps4
    go_wp2_with (first | ((with_reducible refine gate_callee (f := 10) rfl ?_); refine goesL_ (some 11) rfl rfl Tryd.func10 (by kernel_rfl) rfl #[] rfl (by (try simp only [List.map_toArray, List.map_cons, List.map_nil]); first | done | rfl | (simp only [List.length_drop, List.length_take]; rfl)) ?_; (with_reducible refine (prompterlaw07_wakes.calls k  t275 _ A3.out).mono ?_); rintro e w4 ⟨rfl, hb⟩; refine ⟨_, rfl, ?_⟩; have n0_ := Aside0.mk (below_step (by repeat (first | (with_reducible first | exact HB.out | apply below_alloc | apply pw_below_drewN | apply below_drew1) | exact HB.out)) hb); clear HB; have HB := n0_; clear n0_; (try clear hb); (try clear hb2); (try clear hk); (try clear hi)))
    go_ret
    exact ⟨by first | rfl | (simp [errW_none, errW_some] <;> rfl) | (simp [*, errW_none, errW_some] <;> rfl), by repeat (first | (with_reducible first | exact HB.out | apply below_alloc | apply pw_below_drewN | apply below_drew1) | exact HB.out)⟩
  · rw [if_neg c2] at H
    have c2b0 : decide (10000 < (l0.length : Int)) = false := decide_eq_false c2
    have c2b1 : decide (10000 < l0.length) = false := decide_eq_false (by omega)
    clear c2
    replace H := Option.bind_eq_some_iff.mp H
    obtain ⟨⟨t276, t277⟩, A50, H⟩ := H
    replace H : (if t277 = 0 then ((token_All.f k t276).bind fun bt280 => (if bt280.2.2 = 0 then (if bt280.2.1 = 0 then ((prompterlaw07_bare.f k bt280.1).bind fun t285 => ((prompterlaw07_bare.f k l0).bind fun t288 => ((prompterlaw07_Alike.f k t285 t288).bind fun t291 => (if t291 = true then ((prompterlaw07_wakes.f k).bind fun t292 => (some t292)) else (some false))))) else (some false)) else (some false))) else (if t276.toList = ([] : List UInt8) then (if t277 = 3 then ((prompterlaw07_wakes.f k).bind fun t278 => (some t278)) else (if t277 = 2 then ((prompterlaw07_wakes.f k).bind fun t279 => (some t279)) else (some false))) else (some false))) = some r := H
    have A5 := Aside0.mk A50
    clear A50
    by_cases c6 : t277 = 0
    · rw [if_pos c6] at H
      have c6b0 : (t277 == 0) = true := beq_iff_eq.mpr c6
      have c6b1 : (t277 != 0) = false := bne_eq_false_iff_eq.mpr c6
      clear c6
      replace H := Option.bind_eq_some_iff.mp H
      obtain ⟨⟨t280, t281, t282⟩, A70, H⟩ := H
      replace H : (if t282 = 0 then (if t281 = 0 then ((prompterlaw07_bare.f k t280).bind fun t285 => ((prompterlaw07_bare.f k l0).bind fun t288 => ((prompterlaw07_Alike.f k t285 t288).bind fun t291 => (if t291 = true then ((prompterlaw07_wakes.f k).bind fun t292 => (some t292)) else (some false))))) else (some false)) else (some false)) = some r := H
      have A7 := Aside0.mk A70
      clear A70
      by_cases c8 : t282 = 0
      · rw [if_pos c8] at H
        have c8b0 : (t282 == 0) = true := beq_iff_eq.mpr c8
        have c8b1 : (t282 != 0) = false := bne_eq_false_iff_eq.mpr c8
        clear c8
        by_cases c9 : t281 = 0
        · rw [if_pos c9] at H
          have c9b0 : (t281 == 0) = true := beq_iff_eq.mpr c9
          have c9b1 : (t281 != 0) = false := bne_eq_false_iff_eq.mpr c9
          clear c9
          replace H := Option.bind_eq_some_iff.mp H
          obtain ⟨t285, A100, H⟩ := H
          replace H : ((prompterlaw07_bare.f k l0).bind fun t288 => ((prompterlaw07_Alike.f k t285 t288).bind fun t291 => (if t291 = true then ((prompterlaw07_wakes.f k).bind fun t292 => (some t292)) else (some false)))) = some r := H
          have A10 := Aside0.mk A100
          clear A100
          replace H := Option.bind_eq_some_iff.mp H
          obtain ⟨t288, A110, H⟩ := H
          replace H : ((prompterlaw07_Alike.f k t285 t288).bind fun t291 => (if t291 = true then ((prompterlaw07_wakes.f k).bind fun t292 => (some t292)) else (some false))) = some r := H
          have A11 := Aside0.mk A110
          clear A110
          replace H := Option.bind_eq_some_iff.mp H
          obtain ⟨t291, A120, H⟩ := H
          replace H : (if t291 = true then ((prompterlaw07_wakes.f k).bind fun t292 => (some t292)) else (some false)) = some r := H
          have A12 := Aside0.mk A120
          clear A120
          by_cases c13 : t291 = true
          · subst c13
            have H1 : ((prompterlaw07_wakes.f k).bind fun t292 => (some t292)) = some r := by rw [if_pos rfl] at H; exact H
            clear H
            have H := H1
            clear H1
            replace H := Option.bind_eq_some_iff.mp H
            obtain ⟨t292, A140, H⟩ := H
            replace H : (some t292) = some r := H
            have A14 := Aside0.mk A140
            clear A140
            obtain rfl := Option.some.inj H
            go_enter Tryd.func4, Tryd.ntmps4
            go_wp2_with (first | ((with_reducible refine gate_callee (f := 11) rfl ?_); refine goesL_ (some 14) rfl rfl Tryd.func11 (by kernel_rfl) rfl #[.slice A0 l0.length c0] rfl (by (try simp only [List.map_toArray, List.map_cons, List.map_nil]); first | done | rfl | (simp only [List.length_drop, List.length_take]; rfl)) ?_; (with_reducible refine (token_Spell.calls k _ _ l0 t276 t277 _ (HLD.out.below (by repeat (first | (with_reducible first | exact HB.out | apply below_alloc | apply pw_below_drewN | apply below_drew1) | exact HB.out))) ?side1 ?side2 A5.out).mono ?_); (case side1 => repeat (first | exact HR0.out | (with_reducible refine Kd.C_alloc ?_ _) | (with_reducible refine Kd.C_drewN ?_ _) | (with_reducible refine Kd.C_drew ?_))); (case side2 => exact HC0.out); rintro e w15 ⟨rfl, hb⟩; refine ⟨_, rfl, ?_⟩; have n0_ := Aside0.mk (below_step (by repeat (first | (with_reducible first | exact HB.out | apply below_alloc | apply pw_below_drewN | apply below_drew1) | exact HB.out)) hb); clear HB; have HB := n0_; clear n0_; (try clear hb); (try clear hb2); (try clear hk); (try clear hi)) | ((with_reducible refine gate_callee (f := 14) rfl ?_); refine goesL_ (some 34) rfl rfl Tryd.func14 (by kernel_rfl) rfl #[.string t276] rfl (by (try simp only [List.map_toArray, List.map_cons, List.map_nil]); first | done | rfl | (simp only [List.length_drop, List.length_take]; rfl)) ?_; (with_reducible refine (token_All.calls k t276 t280 t281 t282 _ A7.out).mono ?_); rintro e w16 ⟨v283, rfl, ho0, hb⟩; refine ⟨_, rfl, ?_⟩; have n0_ := Aside0.mk (Kd.R_lower ho0 (below_size (by repeat (first | (with_reducible first | exact HB.out | apply below_alloc | apply pw_below_drewN | apply below_drew1) | exact HB.out)))); have n1_ := Aside0.mk (below_step (by repeat (first | (with_reducible first | exact HB.out | apply below_alloc | apply pw_below_drewN | apply below_drew1) | exact HB.out)) hb); clear HB; have HO284 := n0_; have HB := n1_; clear n0_ n1_; (try clear hb); (try clear hb2); (try clear hk); (try clear hi); (try clear ho0); obtain ⟨Ao17, co17, eo17⟩ := Kd.R_slice HO284.out; subst eo17) | (go_at_call 15; (with_reducible refine (prompterlaw07_bare.calls k _ _ t280 t285 _ ?side1 ?side2 A10.out).mono ?_); (case side1 => repeat (first | exact (Kd.R_reads' HO284.out).2.2 | (with_reducible refine Kd.C_alloc ?_ _) | (with_reducible refine Kd.C_drewN ?_ _) | (with_reducible refine Kd.C_drew ?_))); (case side2 => exact (Kd.R_reads' HO284.out).2.1); rintro e w18 ⟨v286, rfl, ho0, hb⟩; have n0_ := Aside0.mk (Kd.R_elder' (by (with_reducible repeat (first | apply Kd.R_alloc | apply Kd.R_drewN | apply Kd.R_drew)); exact HO284.out) (Kd.R_base ho0) hb); have n1_ := Aside0.mk (Kd.R_lower (Kd.R_new' ho0 (Kd.R_lt (by (with_reducible repeat (first | apply Kd.R_alloc | apply Kd.R_drewN | apply Kd.R_drew)); exact HO284.out))) (below_size (by repeat (first | (with_reducible first | exact HB.out | apply below_alloc | apply pw_below_drewN | apply below_drew1) | exact HB.out)))); have n2_ := Aside0.mk (below_step (by repeat (first | (with_reducible first | exact HB.out | apply below_alloc | apply pw_below_drewN | apply below_drew1) | exact HB.out)) hb); clear HO284; clear HB; have HO284 := n0_; have HO287 := n1_; have HB := n2_; clear n0_ n1_ n2_; (try clear hb); (try clear hb2); (try clear hk); (try clear hi); (try clear ho0)) | (go_at_call 15; (with_reducible refine (prompterlaw07_bare.calls k _ _ l0 t288 _ ?side1 ?side2 A11.out).mono ?_); (case side1 => repeat (first | exact (Kd.C_below HR0.out HB.out) | (with_reducible refine Kd.C_alloc ?_ _) | (with_reducible refine Kd.C_drewN ?_ _) | (with_reducible refine Kd.C_drew ?_))); (case side2 => exact HC0.out); rintro e w19 ⟨v289, rfl, ho0, hb⟩; have n0_ := Aside0.mk (Kd.R_elder' (by (with_reducible repeat (first | apply Kd.R_alloc | apply Kd.R_drewN | apply Kd.R_drew)); exact HO284.out) (Kd.R_base ho0) hb); have n1_ := Aside0.mk (Kd.R_elder' (by (with_reducible repeat (first | apply Kd.R_alloc | apply Kd.R_drewN | apply Kd.R_drew)); exact HO287.out) (Kd.R_base ho0) hb); have n2_ := Aside0.mk (Kd.R_lower (Kd.R_new' (Kd.R_new' ho0 (Kd.R_lt (by (with_reducible repeat (first | apply Kd.R_alloc | apply Kd.R_drewN | apply Kd.R_drew)); exact HO284.out))) (Kd.R_lt (by (with_reducible repeat (first | apply Kd.R_alloc | apply Kd.R_drewN | apply Kd.R_drew)); exact HO287.out))) (below_size (by repeat (first | (with_reducible first | exact HB.out | apply below_alloc | apply pw_below_drewN | apply below_drew1) | exact HB.out)))); have n3_ := Aside0.mk (below_step (by repeat (first | (with_reducible first | exact HB.out | apply below_alloc | apply pw_below_drewN | apply below_drew1) | exact HB.out)) hb); clear HO284; clear HO287; clear HB; have HO284 := n0_; have HO287 := n1_; have HO290 := n2_; have HB := n3_; clear n0_ n1_ n2_ n3_; (try clear hb); (try clear hb2); (try clear hk); (try clear hi); (try clear ho0); obtain ⟨Ao20, co20, eo20⟩ := Kd.R_slice HO287.out; subst eo20; obtain ⟨Ao21, co21, eo21⟩ := Kd.R_slice HO290.out; subst eo21) | (go_at_call 13; (with_reducible refine (prompterlaw07_Alike.calls k _ _ t285 _ _ t288 true _ ?side1 ?side2 ?side3 ?side4 A12.out).mono ?_); (case side1 => repeat (first | exact (Kd.R_reads' HO287.out).2.2 | (with_reducible refine Kd.C_alloc ?_ _) | (with_reducible refine Kd.C_drewN ?_ _) | (with_reducible refine Kd.C_drew ?_))); (case side2 => exact (Kd.R_reads' HO287.out).2.1); (case side3 => repeat (first | exact (Kd.R_reads' HO290.out).2.2 | (with_reducible refine Kd.C_alloc ?_ _) | (with_reducible refine Kd.C_drewN ?_ _) | (with_reducible refine Kd.C_drew ?_))); (case side4 => exact (Kd.R_reads' HO290.out).2.1); rintro e w' ⟨rfl, ⟨nd, rfl⟩⟩) | (go_at_call 10; (with_reducible refine (prompterlaw07_wakes.calls k  t292 _ A14.out).mono ?_); rintro e w22 ⟨rfl, hb⟩; have n0_ := Aside0.mk (Kd.R_below (by (with_reducible repeat (first | apply Kd.R_alloc | apply Kd.R_drewN | apply Kd.R_drew)); exact HO284.out) hb); have n1_ := Aside0.mk (Kd.R_below (by (with_reducible repeat (first | apply Kd.R_alloc | apply Kd.R_drewN | apply Kd.R_drew)); exact HO287.out) hb); have n2_ := Aside0.mk (Kd.R_below (by (with_reducible repeat (first | apply Kd.R_alloc | apply Kd.R_drewN | apply Kd.R_drew)); exact HO290.out) hb); have n3_ := Aside0.mk (below_step (by repeat (first | (with_reducible first | exact HB.out | apply below_alloc | apply pw_below_drewN | apply below_drew1) | exact HB.out)) hb); clear HO284; clear HO287; clear HO290; clear HB; have HO284 := n0_; have HO287 := n1_; have HO290 := n2_; have HB := n3_; clear n0_ n1_ n2_ n3_; (try clear hb); (try clear hb2); (try clear hk); (try clear hi)))
            go_ret
            exact ⟨by first | rfl | (simp [errW_none, errW_some] <;> rfl) | (simp [*, errW_none, errW_some] <;> rfl), by repeat (first | (with_reducible first | exact HB.out | apply below_alloc | apply pw_below_drewN | apply below_drew1) | exact HB.out)⟩
          · replace c13 := Bool.eq_false_iff.mpr c13
            subst c13
            have H1 : (some false) = some r := by rw [if_neg (show ¬ (false = true) by decide)] at H; exact H
            clear H
            have H := H1
            clear H1
            obtain rfl := Option.some.inj H
            go_enter Tryd.func4, Tryd.ntmps4
            go_wp2_with (first | ((with_reducible refine gate_callee (f := 11) rfl ?_); refine goesL_ (some 14) rfl rfl Tryd.func11 (by kernel_rfl) rfl #[.slice A0 l0.length c0] rfl (by (try simp only [List.map_toArray, List.map_cons, List.map_nil]); first | done | rfl | (simp only [List.length_drop, List.length_take]; rfl)) ?_; (with_reducible refine (token_Spell.calls k _ _ l0 t276 t277 _ (HLD.out.below (by repeat (first | (with_reducible first | exact HB.out | apply below_alloc | apply pw_below_drewN | apply below_drew1) | exact HB.out))) ?side1 ?side2 A5.out).mono ?_); (case side1 => repeat (first | exact HR0.out | (with_reducible refine Kd.C_alloc ?_ _) | (with_reducible refine Kd.C_drewN ?_ _) | (with_reducible refine Kd.C_drew ?_))); (case side2 => exact HC0.out); rintro e w23 ⟨rfl, hb⟩; refine ⟨_, rfl, ?_⟩; have n0_ := Aside0.mk (below_step (by repeat (first | (with_reducible first | exact HB.out | apply below_alloc | apply pw_below_drewN | apply below_drew1) | exact HB.out)) hb); clear HB; have HB := n0_; clear n0_; (try clear hb); (try clear hb2); (try clear hk); (try clear hi)) | ((with_reducible refine gate_callee (f := 14) rfl ?_); refine goesL_ (some 34) rfl rfl Tryd.func14 (by kernel_rfl) rfl #[.string t276] rfl (by (try simp only [List.map_toArray, List.map_cons, List.map_nil]); first | done | rfl | (simp only [List.length_drop, List.length_take]; rfl)) ?_; (with_reducible refine (token_All.calls k t276 t280 t281 t282 _ A7.out).mono ?_); rintro e w24 ⟨v283, rfl, ho0, hb⟩; refine ⟨_, rfl, ?_⟩; have n0_ := Aside0.mk (Kd.R_lower ho0 (below_size (by repeat (first | (with_reducible first | exact HB.out | apply below_alloc | apply pw_below_drewN | apply below_drew1) | exact HB.out)))); have n1_ := Aside0.mk (below_step (by repeat (first | (with_reducible first | exact HB.out | apply below_alloc | apply pw_below_drewN | apply below_drew1) | exact HB.out)) hb); clear HB; have HO284 := n0_; have HB := n1_; clear n0_ n1_; (try clear hb); (try clear hb2); (try clear hk); (try clear hi); (try clear ho0); obtain ⟨Ao25, co25, eo25⟩ := Kd.R_slice HO284.out; subst eo25) | (go_at_call 15; (with_reducible refine (prompterlaw07_bare.calls k _ _ t280 t285 _ ?side1 ?side2 A10.out).mono ?_); (case side1 => repeat (first | exact (Kd.R_reads' HO284.out).2.2 | (with_reducible refine Kd.C_alloc ?_ _) | (with_reducible refine Kd.C_drewN ?_ _) | (with_reducible refine Kd.C_drew ?_))); (case side2 => exact (Kd.R_reads' HO284.out).2.1); rintro e w26 ⟨v286, rfl, ho0, hb⟩; have n0_ := Aside0.mk (Kd.R_elder' (by (with_reducible repeat (first | apply Kd.R_alloc | apply Kd.R_drewN | apply Kd.R_drew)); exact HO284.out) (Kd.R_base ho0) hb); have n1_ := Aside0.mk (Kd.R_lower (Kd.R_new' ho0 (Kd.R_lt (by (with_reducible repeat (first | apply Kd.R_alloc | apply Kd.R_drewN | apply Kd.R_drew)); exact HO284.out))) (below_size (by repeat (first | (with_reducible first | exact HB.out | apply below_alloc | apply pw_below_drewN | apply below_drew1) | exact HB.out)))); have n2_ := Aside0.mk (below_step (by repeat (first | (with_reducible first | exact HB.out | apply below_alloc | apply pw_below_drewN | apply below_drew1) | exact HB.out)) hb); clear HO284; clear HB; have HO284 := n0_; have HO287 := n1_; have HB := n2_; clear n0_ n1_ n2_; (try clear hb); (try clear hb2); (try clear hk); (try clear hi); (try clear ho0)) | (go_at_call 15; (with_reducible refine (prompterlaw07_bare.calls k _ _ l0 t288 _ ?side1 ?side2 A11.out).mono ?_); (case side1 => repeat (first | exact (Kd.C_below HR0.out HB.out) | (with_reducible refine Kd.C_alloc ?_ _) | (with_reducible refine Kd.C_drewN ?_ _) | (with_reducible refine Kd.C_drew ?_))); (case side2 => exact HC0.out); rintro e w27 ⟨v289, rfl, ho0, hb⟩; have n0_ := Aside0.mk (Kd.R_elder' (by (with_reducible repeat (first | apply Kd.R_alloc | apply Kd.R_drewN | apply Kd.R_drew)); exact HO284.out) (Kd.R_base ho0) hb); have n1_ := Aside0.mk (Kd.R_elder' (by (with_reducible repeat (first | apply Kd.R_alloc | apply Kd.R_drewN | apply Kd.R_drew)); exact HO287.out) (Kd.R_base ho0) hb); have n2_ := Aside0.mk (Kd.R_lower (Kd.R_new' (Kd.R_new' ho0 (Kd.R_lt (by (with_reducible repeat (first | apply Kd.R_alloc | apply Kd.R_drewN | apply Kd.R_drew)); exact HO284.out))) (Kd.R_lt (by (with_reducible repeat (first | apply Kd.R_alloc | apply Kd.R_drewN | apply Kd.R_drew)); exact HO287.out))) (below_size (by repeat (first | (with_reducible first | exact HB.out | apply below_alloc | apply pw_below_drewN | apply below_drew1) | exact HB.out)))); have n3_ := Aside0.mk (below_step (by repeat (first | (with_reducible first | exact HB.out | apply below_alloc | apply pw_below_drewN | apply below_drew1) | exact HB.out)) hb); clear HO284; clear HO287; clear HB; have HO284 := n0_; have HO287 := n1_; have HO290 := n2_; have HB := n3_; clear n0_ n1_ n2_ n3_; (try clear hb); (try clear hb2); (try clear hk); (try clear hi); (try clear ho0); obtain ⟨Ao28, co28, eo28⟩ := Kd.R_slice HO287.out; subst eo28; obtain ⟨Ao29, co29, eo29⟩ := Kd.R_slice HO290.out; subst eo29) | (go_at_call 13; (with_reducible refine (prompterlaw07_Alike.calls k _ _ t285 _ _ t288 false _ ?side1 ?side2 ?side3 ?side4 A12.out).mono ?_); (case side1 => repeat (first | exact (Kd.R_reads' HO287.out).2.2 | (with_reducible refine Kd.C_alloc ?_ _) | (with_reducible refine Kd.C_drewN ?_ _) | (with_reducible refine Kd.C_drew ?_))); (case side2 => exact (Kd.R_reads' HO287.out).2.1); (case side3 => repeat (first | exact (Kd.R_reads' HO290.out).2.2 | (with_reducible refine Kd.C_alloc ?_ _) | (with_reducible refine Kd.C_drewN ?_ _) | (with_reducible refine Kd.C_drew ?_))); (case side4 => exact (Kd.R_reads' HO290.out).2.1); rintro e w' ⟨rfl, ⟨nd, rfl⟩⟩))
            go_ret
            exact ⟨by first | rfl | (simp [errW_none, errW_some] <;> rfl) | (simp [*, errW_none, errW_some] <;> rfl), by repeat (first | (with_reducible first | exact HB.out | apply below_alloc | apply pw_below_drewN | apply below_drew1) | exact HB.out)⟩
        · rw [if_neg c9] at H
          have c9b0 : (t281 == 0) = false := beq_eq_false_iff_ne.mpr c9
          have c9b1 : (t281 != 0) = true := bne_iff_ne.mpr c9
          obtain rfl := Option.some.inj H
          go_enter Tryd.func4, Tryd.ntmps4
          go_wp2_with (first | ((with_reducible refine gate_callee (f := 11) rfl ?_); refine goesL_ (some 14) rfl rfl Tryd.func11 (by kernel_rfl) rfl #[.slice A0 l0.length c0] rfl (by (try simp only [List.map_toArray, List.map_cons, List.map_nil]); first | done | rfl | (simp only [List.length_drop, List.length_take]; rfl)) ?_; (with_reducible refine (token_Spell.calls k _ _ l0 t276 t277 _ (HLD.out.below (by repeat (first | (with_reducible first | exact HB.out | apply below_alloc | apply pw_below_drewN | apply below_drew1) | exact HB.out))) ?side1 ?side2 A5.out).mono ?_); (case side1 => repeat (first | exact HR0.out | (with_reducible refine Kd.C_alloc ?_ _) | (with_reducible refine Kd.C_drewN ?_ _) | (with_reducible refine Kd.C_drew ?_))); (case side2 => exact HC0.out); rintro e w30 ⟨rfl, hb⟩; refine ⟨_, rfl, ?_⟩; have n0_ := Aside0.mk (below_step (by repeat (first | (with_reducible first | exact HB.out | apply below_alloc | apply pw_below_drewN | apply below_drew1) | exact HB.out)) hb); clear HB; have HB := n0_; clear n0_; (try clear hb); (try clear hb2); (try clear hk); (try clear hi)) | ((with_reducible refine gate_callee (f := 14) rfl ?_); refine goesL_ (some 34) rfl rfl Tryd.func14 (by kernel_rfl) rfl #[.string t276] rfl (by (try simp only [List.map_toArray, List.map_cons, List.map_nil]); first | done | rfl | (simp only [List.length_drop, List.length_take]; rfl)) ?_; (with_reducible refine (token_All.calls k t276 t280 t281 t282 _ A7.out).mono ?_); rintro e w31 ⟨v283, rfl, ho0, hb⟩; refine ⟨_, rfl, ?_⟩; have n0_ := Aside0.mk (Kd.R_lower ho0 (below_size (by repeat (first | (with_reducible first | exact HB.out | apply below_alloc | apply pw_below_drewN | apply below_drew1) | exact HB.out)))); have n1_ := Aside0.mk (below_step (by repeat (first | (with_reducible first | exact HB.out | apply below_alloc | apply pw_below_drewN | apply below_drew1) | exact HB.out)) hb); clear HB; have HO284 := n0_; have HB := n1_; clear n0_ n1_; (try clear hb); (try clear hb2); (try clear hk); (try clear hi); (try clear ho0)))
          go_ret
          exact ⟨by first | rfl | (simp [errW_none, errW_some] <;> rfl) | (simp [*, errW_none, errW_some] <;> rfl), by repeat (first | (with_reducible first | exact HB.out | apply below_alloc | apply pw_below_drewN | apply below_drew1) | exact HB.out)⟩
      · rw [if_neg c8] at H
        have c8b0 : (t282 == 0) = false := beq_eq_false_iff_ne.mpr c8
        have c8b1 : (t282 != 0) = true := bne_iff_ne.mpr c8
        obtain rfl := Option.some.inj H
        go_enter Tryd.func4, Tryd.ntmps4
        go_wp2_with (first | ((with_reducible refine gate_callee (f := 11) rfl ?_); refine goesL_ (some 14) rfl rfl Tryd.func11 (by kernel_rfl) rfl #[.slice A0 l0.length c0] rfl (by (try simp only [List.map_toArray, List.map_cons, List.map_nil]); first | done | rfl | (simp only [List.length_drop, List.length_take]; rfl)) ?_; (with_reducible refine (token_Spell.calls k _ _ l0 t276 t277 _ (HLD.out.below (by repeat (first | (with_reducible first | exact HB.out | apply below_alloc | apply pw_below_drewN | apply below_drew1) | exact HB.out))) ?side1 ?side2 A5.out).mono ?_); (case side1 => repeat (first | exact HR0.out | (with_reducible refine Kd.C_alloc ?_ _) | (with_reducible refine Kd.C_drewN ?_ _) | (with_reducible refine Kd.C_drew ?_))); (case side2 => exact HC0.out); rintro e w32 ⟨rfl, hb⟩; refine ⟨_, rfl, ?_⟩; have n0_ := Aside0.mk (below_step (by repeat (first | (with_reducible first | exact HB.out | apply below_alloc | apply pw_below_drewN | apply below_drew1) | exact HB.out)) hb); clear HB; have HB := n0_; clear n0_; (try clear hb); (try clear hb2); (try clear hk); (try clear hi)) | ((with_reducible refine gate_callee (f := 14) rfl ?_); refine goesL_ (some 34) rfl rfl Tryd.func14 (by kernel_rfl) rfl #[.string t276] rfl (by (try simp only [List.map_toArray, List.map_cons, List.map_nil]); first | done | rfl | (simp only [List.length_drop, List.length_take]; rfl)) ?_; (with_reducible refine (token_All.calls k t276 t280 t281 t282 _ A7.out).mono ?_); rintro e w33 ⟨v283, rfl, ho0, hb⟩; refine ⟨_, rfl, ?_⟩; have n0_ := Aside0.mk (Kd.R_lower ho0 (below_size (by repeat (first | (with_reducible first | exact HB.out | apply below_alloc | apply pw_below_drewN | apply below_drew1) | exact HB.out)))); have n1_ := Aside0.mk (below_step (by repeat (first | (with_reducible first | exact HB.out | apply below_alloc | apply pw_below_drewN | apply below_drew1) | exact HB.out)) hb); clear HB; have HO284 := n0_; have HB := n1_; clear n0_ n1_; (try clear hb); (try clear hb2); (try clear hk); (try clear hi); (try clear ho0)))
        go_ret
        exact ⟨by first | rfl | (simp [errW_none, errW_some] <;> rfl) | (simp [*, errW_none, errW_some] <;> rfl), by repeat (first | (with_reducible first | exact HB.out | apply below_alloc | apply pw_below_drewN | apply below_drew1) | exact HB.out)⟩
    · rw [if_neg c6] at H
      have c6b0 : (t277 == 0) = false := beq_eq_false_iff_ne.mpr c6
      have c6b1 : (t277 != 0) = true := bne_iff_ne.mpr c6
      by_cases c34 : t276.toList = ([] : List UInt8)
      · rw [if_pos c34] at H
        have c34b0 : (t276.toList == ([] : List UInt8)) = true := beq_iff_eq.mpr c34
        have c34b1 : (t276.toList != ([] : List UInt8)) = false := bne_eq_false_iff_eq.mpr c34
        clear c34
        by_cases c35 : t277 = 3
        · rw [if_pos c35] at H
          have c35b0 : (t277 == 3) = true := beq_iff_eq.mpr c35
          have c35b1 : (t277 != 3) = false := bne_eq_false_iff_eq.mpr c35
          clear c35
          replace H := Option.bind_eq_some_iff.mp H
          obtain ⟨t278, A360, H⟩ := H
          replace H : (some t278) = some r := H
          have A36 := Aside0.mk A360
          clear A360
          obtain rfl := Option.some.inj H
          go_enter Tryd.func4, Tryd.ntmps4
          go_wp2_with (first | ((with_reducible refine gate_callee (f := 11) rfl ?_); refine goesL_ (some 14) rfl rfl Tryd.func11 (by kernel_rfl) rfl #[.slice A0 l0.length c0] rfl (by (try simp only [List.map_toArray, List.map_cons, List.map_nil]); first | done | rfl | (simp only [List.length_drop, List.length_take]; rfl)) ?_; (with_reducible refine (token_Spell.calls k _ _ l0 t276 t277 _ (HLD.out.below (by repeat (first | (with_reducible first | exact HB.out | apply below_alloc | apply pw_below_drewN | apply below_drew1) | exact HB.out))) ?side1 ?side2 A5.out).mono ?_); (case side1 => repeat (first | exact HR0.out | (with_reducible refine Kd.C_alloc ?_ _) | (with_reducible refine Kd.C_drewN ?_ _) | (with_reducible refine Kd.C_drew ?_))); (case side2 => exact HC0.out); rintro e w37 ⟨rfl, hb⟩; refine ⟨_, rfl, ?_⟩; have n0_ := Aside0.mk (below_step (by repeat (first | (with_reducible first | exact HB.out | apply below_alloc | apply pw_below_drewN | apply below_drew1) | exact HB.out)) hb); clear HB; have HB := n0_; clear n0_; (try clear hb); (try clear hb2); (try clear hk); (try clear hi)) | (go_at_call 10; (with_reducible refine (prompterlaw07_wakes.calls k  t278 _ A36.out).mono ?_); rintro e w38 ⟨rfl, hb⟩; have n0_ := Aside0.mk (below_step (by repeat (first | (with_reducible first | exact HB.out | apply below_alloc | apply pw_below_drewN | apply below_drew1) | exact HB.out)) hb); clear HB; have HB := n0_; clear n0_; (try clear hb); (try clear hb2); (try clear hk); (try clear hi)))
          go_ret
          exact ⟨by first | rfl | (simp [errW_none, errW_some] <;> rfl) | (simp [*, errW_none, errW_some] <;> rfl), by repeat (first | (with_reducible first | exact HB.out | apply below_alloc | apply pw_below_drewN | apply below_drew1) | exact HB.out)⟩
        · rw [if_neg c35] at H
          have c35b0 : (t277 == 3) = false := beq_eq_false_iff_ne.mpr c35
          have c35b1 : (t277 != 3) = true := bne_iff_ne.mpr c35
          by_cases c39 : t277 = 2
          · rw [if_pos c39] at H
            have c39b0 : (t277 == 2) = true := beq_iff_eq.mpr c39
            have c39b1 : (t277 != 2) = false := bne_eq_false_iff_eq.mpr c39
            clear c39
            replace H := Option.bind_eq_some_iff.mp H
            obtain ⟨t279, A400, H⟩ := H
            replace H : (some t279) = some r := H
            have A40 := Aside0.mk A400
            clear A400
            obtain rfl := Option.some.inj H
            go_enter Tryd.func4, Tryd.ntmps4
            go_wp2_with (first | ((with_reducible refine gate_callee (f := 11) rfl ?_); refine goesL_ (some 14) rfl rfl Tryd.func11 (by kernel_rfl) rfl #[.slice A0 l0.length c0] rfl (by (try simp only [List.map_toArray, List.map_cons, List.map_nil]); first | done | rfl | (simp only [List.length_drop, List.length_take]; rfl)) ?_; (with_reducible refine (token_Spell.calls k _ _ l0 t276 t277 _ (HLD.out.below (by repeat (first | (with_reducible first | exact HB.out | apply below_alloc | apply pw_below_drewN | apply below_drew1) | exact HB.out))) ?side1 ?side2 A5.out).mono ?_); (case side1 => repeat (first | exact HR0.out | (with_reducible refine Kd.C_alloc ?_ _) | (with_reducible refine Kd.C_drewN ?_ _) | (with_reducible refine Kd.C_drew ?_))); (case side2 => exact HC0.out); rintro e w41 ⟨rfl, hb⟩; refine ⟨_, rfl, ?_⟩; have n0_ := Aside0.mk (below_step (by repeat (first | (with_reducible first | exact HB.out | apply below_alloc | apply pw_below_drewN | apply below_drew1) | exact HB.out)) hb); clear HB; have HB := n0_; clear n0_; (try clear hb); (try clear hb2); (try clear hk); (try clear hi)) | (go_at_call 10; (with_reducible refine (prompterlaw07_wakes.calls k  t279 _ A40.out).mono ?_); rintro e w42 ⟨rfl, hb⟩; have n0_ := Aside0.mk (below_step (by repeat (first | (with_reducible first | exact HB.out | apply below_alloc | apply pw_below_drewN | apply below_drew1) | exact HB.out)) hb); clear HB; have HB := n0_; clear n0_; (try clear hb); (try clear hb2); (try clear hk); (try clear hi)))
            go_ret
            exact ⟨by first | rfl | (simp [errW_none, errW_some] <;> rfl) | (simp [*, errW_none, errW_some] <;> rfl), by repeat (first | (with_reducible first | exact HB.out | apply below_alloc | apply pw_below_drewN | apply below_drew1) | exact HB.out)⟩
          · rw [if_neg c39] at H
            have c39b0 : (t277 == 2) = false := beq_eq_false_iff_ne.mpr c39
            have c39b1 : (t277 != 2) = true := bne_iff_ne.mpr c39
            obtain rfl := Option.some.inj H
            go_enter Tryd.func4, Tryd.ntmps4
            go_wp2_with (first | ((with_reducible refine gate_callee (f := 11) rfl ?_); refine goesL_ (some 14) rfl rfl Tryd.func11 (by kernel_rfl) rfl #[.slice A0 l0.length c0] rfl (by (try simp only [List.map_toArray, List.map_cons, List.map_nil]); first | done | rfl | (simp only [List.length_drop, List.length_take]; rfl)) ?_; (with_reducible refine (token_Spell.calls k _ _ l0 t276 t277 _ (HLD.out.below (by repeat (first | (with_reducible first | exact HB.out | apply below_alloc | apply pw_below_drewN | apply below_drew1) | exact HB.out))) ?side1 ?side2 A5.out).mono ?_); (case side1 => repeat (first | exact HR0.out | (with_reducible refine Kd.C_alloc ?_ _) | (with_reducible refine Kd.C_drewN ?_ _) | (with_reducible refine Kd.C_drew ?_))); (case side2 => exact HC0.out); rintro e w43 ⟨rfl, hb⟩; refine ⟨_, rfl, ?_⟩; have n0_ := Aside0.mk (below_step (by repeat (first | (with_reducible first | exact HB.out | apply below_alloc | apply pw_below_drewN | apply below_drew1) | exact HB.out)) hb); clear HB; have HB := n0_; clear n0_; (try clear hb); (try clear hb2); (try clear hk); (try clear hi)))
            go_ret
            exact ⟨by first | rfl | (simp [errW_none, errW_some] <;> rfl) | (simp [*, errW_none, errW_some] <;> rfl), by repeat (first | (with_reducible first | exact HB.out | apply below_alloc | apply pw_below_drewN | apply below_drew1) | exact HB.out)⟩
      · rw [if_neg c34] at H
        have c34b0 : (t276.toList == ([] : List UInt8)) = false := beq_eq_false_iff_ne.mpr c34
        have c34b1 : (t276.toList != ([] : List UInt8)) = true := bne_iff_ne.mpr c34
        obtain rfl := Option.some.inj H
        go_enter Tryd.func4, Tryd.ntmps4
        go_wp2_with (first | ((with_reducible refine gate_callee (f := 11) rfl ?_); refine goesL_ (some 14) rfl rfl Tryd.func11 (by kernel_rfl) rfl #[.slice A0 l0.length c0] rfl (by (try simp only [List.map_toArray, List.map_cons, List.map_nil]); first | done | rfl | (simp only [List.length_drop, List.length_take]; rfl)) ?_; (with_reducible refine (token_Spell.calls k _ _ l0 t276 t277 _ (HLD.out.below (by repeat (first | (with_reducible first | exact HB.out | apply below_alloc | apply pw_below_drewN | apply below_drew1) | exact HB.out))) ?side1 ?side2 A5.out).mono ?_); (case side1 => repeat (first | exact HR0.out | (with_reducible refine Kd.C_alloc ?_ _) | (with_reducible refine Kd.C_drewN ?_ _) | (with_reducible refine Kd.C_drew ?_))); (case side2 => exact HC0.out); rintro e w44 ⟨rfl, hb⟩; refine ⟨_, rfl, ?_⟩; have n0_ := Aside0.mk (below_step (by repeat (first | (with_reducible first | exact HB.out | apply below_alloc | apply pw_below_drewN | apply below_drew1) | exact HB.out)) hb); clear HB; have HB := n0_; clear n0_; (try clear hb); (try clear hb2); (try clear hk); (try clear hi)))
        go_ret
        exact ⟨by first | rfl | (simp [errW_none, errW_some] <;> rfl) | (simp [*, errW_none, errW_some] <;> rfl), by repeat (first | (with_reducible first | exact HB.out | apply below_alloc | apply pw_below_drewN | apply below_drew1) | exact HB.out)⟩
end Go.Proofs.YtlbchdalimngjaaDoor.P
