/- Parts of a proof, joined by a program: TreeMade: parts of a tree that was put together are those that it was made of, for any twig and parts (no condition). -/
import Derived.Test.YtlbchdalimngjaaTDe
namespace Go.Proofs.Ytlbchdalimngjaa.P
open Go.RowKit Go.Proofs.YtlbchdalimngjaaW.PrintWords Go.Proofs.YtlbchdalimngjaaW.PrintLast Go.Proofs.YtlbchdalimngjaaW.PrintMore
attribute [local go_sem] max2_int min2_int max_two min_two max_three min_three max_four min_four
set_option linter.unusedVariables false
set_option linter.unusedSimpArgs false
def token_Keyword.f (a0 : ByteArray) : Option (Bool) := if a0.toList = ([102, 108, 111, 119] : List UInt8) then (some true) else (if a0.toList = ([108, 101, 116] : List UInt8) then (some true) else (if a0.toList = ([105, 102] : List UInt8) then (some true) else (if a0.toList = ([101, 108, 115, 101] : List UInt8) then (some true) else (if a0.toList = ([119, 104, 105, 108, 101] : List UInt8) then (some true) else (if a0.toList = ([114, 101, 116, 117, 114, 110] : List UInt8) then (some true) else (if a0.toList = ([102, 97, 105, 108] : List UInt8) then (some true) else (if a0.toList = ([115, 108, 101, 101, 112] : List UInt8) then (some true) else (if a0.toList = ([100, 111] : List UInt8) then (some true) else (if a0.toList = ([110, 111, 110, 101] : List UInt8) then (some true) else (if a0.toList = ([116, 114, 117, 101] : List UInt8) then (some true) else (if a0.toList = ([102, 97, 108, 115, 101] : List UInt8) then (some true) else (if a0.toList = ([111, 114] : List UInt8) then (some true) else (if a0.toList = ([97, 110, 100] : List UInt8) then (some true) else (if a0.toList = ([110, 111, 116] : List UInt8) then (some true) else (if a0.toList = ([108, 101, 110] : List UInt8) then (some true) else (if a0.toList = ([110, 117, 109] : List UInt8) then (some true) else (if a0.toList = ([114, 101] : List UInt8) then (some true) else (if a0.toList = ([105, 109] : List UInt8) then (some true) else (if a0.toList = ([99, 111, 110, 106] : List UInt8) then (some true) else (if a0.toList = ([99, 97, 108, 108] : List UInt8) then (some true) else (if a0.toList = ([99, 104, 105, 108, 100] : List UInt8) then (some true) else (if a0.toList = ([116, 105, 109, 101, 114] : List UInt8) then (some true) else (if a0.toList = ([102, 111, 114, 107] : List UInt8) then (some true) else (if a0.toList = ([97, 119, 97, 105, 116] : List UInt8) then (some true) else (if a0.toList = ([115, 101, 116, 116, 108, 101] : List UInt8) then (some true) else (if a0.toList = ([116, 97, 107, 101] : List UInt8) then (some true) else (if a0.toList = ([118, 101, 114, 115, 105, 111, 110] : List UInt8) then (some true) else (some false))))))))))))))))))))))))))))
set_option maxHeartbeats 8000000 in
set_option maxRecDepth 100000 in
theorem token_Keyword.calls (a0 : ByteArray) (r : Bool) (w : World) (h : token_Keyword.f a0 = some r) :
    Calls Try.prog 14 #[.string a0] w fun e w' => e = .returned (.bool r) ∧ Drawn0 w w' := by
  have H : (if a0.toList = ([102, 108, 111, 119] : List UInt8) then (some true) else (if a0.toList = ([108, 101, 116] : List UInt8) then (some true) else (if a0.toList = ([105, 102] : List UInt8) then (some true) else (if a0.toList = ([101, 108, 115, 101] : List UInt8) then (some true) else (if a0.toList = ([119, 104, 105, 108, 101] : List UInt8) then (some true) else (if a0.toList = ([114, 101, 116, 117, 114, 110] : List UInt8) then (some true) else (if a0.toList = ([102, 97, 105, 108] : List UInt8) then (some true) else (if a0.toList = ([115, 108, 101, 101, 112] : List UInt8) then (some true) else (if a0.toList = ([100, 111] : List UInt8) then (some true) else (if a0.toList = ([110, 111, 110, 101] : List UInt8) then (some true) else (if a0.toList = ([116, 114, 117, 101] : List UInt8) then (some true) else (if a0.toList = ([102, 97, 108, 115, 101] : List UInt8) then (some true) else (if a0.toList = ([111, 114] : List UInt8) then (some true) else (if a0.toList = ([97, 110, 100] : List UInt8) then (some true) else (if a0.toList = ([110, 111, 116] : List UInt8) then (some true) else (if a0.toList = ([108, 101, 110] : List UInt8) then (some true) else (if a0.toList = ([110, 117, 109] : List UInt8) then (some true) else (if a0.toList = ([114, 101] : List UInt8) then (some true) else (if a0.toList = ([105, 109] : List UInt8) then (some true) else (if a0.toList = ([99, 111, 110, 106] : List UInt8) then (some true) else (if a0.toList = ([99, 97, 108, 108] : List UInt8) then (some true) else (if a0.toList = ([99, 104, 105, 108, 100] : List UInt8) then (some true) else (if a0.toList = ([116, 105, 109, 101, 114] : List UInt8) then (some true) else (if a0.toList = ([102, 111, 114, 107] : List UInt8) then (some true) else (if a0.toList = ([97, 119, 97, 105, 116] : List UInt8) then (some true) else (if a0.toList = ([115, 101, 116, 116, 108, 101] : List UInt8) then (some true) else (if a0.toList = ([116, 97, 107, 101] : List UInt8) then (some true) else (if a0.toList = ([118, 101, 114, 115, 105, 111, 110] : List UInt8) then (some true) else (some false))))))))))))))))))))))))))))) = some r := h
  clear h
  by_cases c2 : a0.toList = ([102, 108, 111, 119] : List UInt8)
  · rw [if_pos c2] at H
    have c2b0 : (a0.toList == ([102, 108, 111, 119] : List UInt8)) = true := beq_iff_eq.mpr c2
    have c2b1 : (a0.toList != ([102, 108, 111, 119] : List UInt8)) = false := bne_eq_false_iff_eq.mpr c2
    clear c2
    obtain rfl := Option.some.inj H
    go_enter Try.func14, Try.ntmps14
    go_wp2
    go_ret
    exact ⟨by first | rfl | (simp; done) | (simp [*]; done), by repeat (first | exact Drawn0.refl _ | apply Drawn0.step)⟩
  · rw [if_neg c2] at H
    have c2b0 : (a0.toList == ([102, 108, 111, 119] : List UInt8)) = false := beq_eq_false_iff_ne.mpr c2
    have c2b1 : (a0.toList != ([102, 108, 111, 119] : List UInt8)) = true := bne_iff_ne.mpr c2
    by_cases c3 : a0.toList = ([108, 101, 116] : List UInt8)
    · rw [if_pos c3] at H
      have c3b0 : (a0.toList == ([108, 101, 116] : List UInt8)) = true := beq_iff_eq.mpr c3
      have c3b1 : (a0.toList != ([108, 101, 116] : List UInt8)) = false := bne_eq_false_iff_eq.mpr c3
      clear c3
      obtain rfl := Option.some.inj H
      go_enter Try.func14, Try.ntmps14
      go_wp2
      go_ret
      exact ⟨by first | rfl | (simp; done) | (simp [*]; done), by repeat (first | exact Drawn0.refl _ | apply Drawn0.step)⟩
    · rw [if_neg c3] at H
      have c3b0 : (a0.toList == ([108, 101, 116] : List UInt8)) = false := beq_eq_false_iff_ne.mpr c3
      have c3b1 : (a0.toList != ([108, 101, 116] : List UInt8)) = true := bne_iff_ne.mpr c3
      by_cases c4 : a0.toList = ([105, 102] : List UInt8)
      · rw [if_pos c4] at H
        have c4b0 : (a0.toList == ([105, 102] : List UInt8)) = true := beq_iff_eq.mpr c4
        have c4b1 : (a0.toList != ([105, 102] : List UInt8)) = false := bne_eq_false_iff_eq.mpr c4
        clear c4
        obtain rfl := Option.some.inj H
        go_enter Try.func14, Try.ntmps14
        go_wp2
        go_ret
        exact ⟨by first | rfl | (simp; done) | (simp [*]; done), by repeat (first | exact Drawn0.refl _ | apply Drawn0.step)⟩
      · rw [if_neg c4] at H
        have c4b0 : (a0.toList == ([105, 102] : List UInt8)) = false := beq_eq_false_iff_ne.mpr c4
        have c4b1 : (a0.toList != ([105, 102] : List UInt8)) = true := bne_iff_ne.mpr c4
        by_cases c5 : a0.toList = ([101, 108, 115, 101] : List UInt8)
        · rw [if_pos c5] at H
          have c5b0 : (a0.toList == ([101, 108, 115, 101] : List UInt8)) = true := beq_iff_eq.mpr c5
          have c5b1 : (a0.toList != ([101, 108, 115, 101] : List UInt8)) = false := bne_eq_false_iff_eq.mpr c5
          clear c5
          obtain rfl := Option.some.inj H
          go_enter Try.func14, Try.ntmps14
          go_wp2
          go_ret
          exact ⟨by first | rfl | (simp; done) | (simp [*]; done), by repeat (first | exact Drawn0.refl _ | apply Drawn0.step)⟩
        · rw [if_neg c5] at H
          have c5b0 : (a0.toList == ([101, 108, 115, 101] : List UInt8)) = false := beq_eq_false_iff_ne.mpr c5
          have c5b1 : (a0.toList != ([101, 108, 115, 101] : List UInt8)) = true := bne_iff_ne.mpr c5
          by_cases c6 : a0.toList = ([119, 104, 105, 108, 101] : List UInt8)
          · rw [if_pos c6] at H
            have c6b0 : (a0.toList == ([119, 104, 105, 108, 101] : List UInt8)) = true := beq_iff_eq.mpr c6
            have c6b1 : (a0.toList != ([119, 104, 105, 108, 101] : List UInt8)) = false := bne_eq_false_iff_eq.mpr c6
            clear c6
            obtain rfl := Option.some.inj H
            go_enter Try.func14, Try.ntmps14
            go_wp2
            go_ret
            exact ⟨by first | rfl | (simp; done) | (simp [*]; done), by repeat (first | exact Drawn0.refl _ | apply Drawn0.step)⟩
          · rw [if_neg c6] at H
            have c6b0 : (a0.toList == ([119, 104, 105, 108, 101] : List UInt8)) = false := beq_eq_false_iff_ne.mpr c6
            have c6b1 : (a0.toList != ([119, 104, 105, 108, 101] : List UInt8)) = true := bne_iff_ne.mpr c6
            by_cases c7 : a0.toList = ([114, 101, 116, 117, 114, 110] : List UInt8)
            · rw [if_pos c7] at H
              have c7b0 : (a0.toList == ([114, 101, 116, 117, 114, 110] : List UInt8)) = true := beq_iff_eq.mpr c7
              have c7b1 : (a0.toList != ([114, 101, 116, 117, 114, 110] : List UInt8)) = false := bne_eq_false_iff_eq.mpr c7
              clear c7
              obtain rfl := Option.some.inj H
              go_enter Try.func14, Try.ntmps14
              go_wp2
              go_ret
              exact ⟨by first | rfl | (simp; done) | (simp [*]; done), by repeat (first | exact Drawn0.refl _ | apply Drawn0.step)⟩
            · rw [if_neg c7] at H
              have c7b0 : (a0.toList == ([114, 101, 116, 117, 114, 110] : List UInt8)) = false := beq_eq_false_iff_ne.mpr c7
              have c7b1 : (a0.toList != ([114, 101, 116, 117, 114, 110] : List UInt8)) = true := bne_iff_ne.mpr c7
              by_cases c8 : a0.toList = ([102, 97, 105, 108] : List UInt8)
              · rw [if_pos c8] at H
                have c8b0 : (a0.toList == ([102, 97, 105, 108] : List UInt8)) = true := beq_iff_eq.mpr c8
                have c8b1 : (a0.toList != ([102, 97, 105, 108] : List UInt8)) = false := bne_eq_false_iff_eq.mpr c8
                clear c8
                obtain rfl := Option.some.inj H
                go_enter Try.func14, Try.ntmps14
                go_wp2
                go_ret
                exact ⟨by first | rfl | (simp; done) | (simp [*]; done), by repeat (first | exact Drawn0.refl _ | apply Drawn0.step)⟩
              · rw [if_neg c8] at H
                have c8b0 : (a0.toList == ([102, 97, 105, 108] : List UInt8)) = false := beq_eq_false_iff_ne.mpr c8
                have c8b1 : (a0.toList != ([102, 97, 105, 108] : List UInt8)) = true := bne_iff_ne.mpr c8
                by_cases c9 : a0.toList = ([115, 108, 101, 101, 112] : List UInt8)
                · rw [if_pos c9] at H
                  have c9b0 : (a0.toList == ([115, 108, 101, 101, 112] : List UInt8)) = true := beq_iff_eq.mpr c9
                  have c9b1 : (a0.toList != ([115, 108, 101, 101, 112] : List UInt8)) = false := bne_eq_false_iff_eq.mpr c9
                  clear c9
                  obtain rfl := Option.some.inj H
                  go_enter Try.func14, Try.ntmps14
                  go_wp2
                  go_ret
                  exact ⟨by first | rfl | (simp; done) | (simp [*]; done), by repeat (first | exact Drawn0.refl _ | apply Drawn0.step)⟩
                · rw [if_neg c9] at H
                  have c9b0 : (a0.toList == ([115, 108, 101, 101, 112] : List UInt8)) = false := beq_eq_false_iff_ne.mpr c9
                  have c9b1 : (a0.toList != ([115, 108, 101, 101, 112] : List UInt8)) = true := bne_iff_ne.mpr c9
                  by_cases c10 : a0.toList = ([100, 111] : List UInt8)
                  · rw [if_pos c10] at H
                    have c10b0 : (a0.toList == ([100, 111] : List UInt8)) = true := beq_iff_eq.mpr c10
                    have c10b1 : (a0.toList != ([100, 111] : List UInt8)) = false := bne_eq_false_iff_eq.mpr c10
                    clear c10
                    obtain rfl := Option.some.inj H
                    go_enter Try.func14, Try.ntmps14
                    go_wp2
                    go_ret
                    exact ⟨by first | rfl | (simp; done) | (simp [*]; done), by repeat (first | exact Drawn0.refl _ | apply Drawn0.step)⟩
                  · rw [if_neg c10] at H
                    have c10b0 : (a0.toList == ([100, 111] : List UInt8)) = false := beq_eq_false_iff_ne.mpr c10
                    have c10b1 : (a0.toList != ([100, 111] : List UInt8)) = true := bne_iff_ne.mpr c10
                    by_cases c11 : a0.toList = ([110, 111, 110, 101] : List UInt8)
                    · rw [if_pos c11] at H
                      have c11b0 : (a0.toList == ([110, 111, 110, 101] : List UInt8)) = true := beq_iff_eq.mpr c11
                      have c11b1 : (a0.toList != ([110, 111, 110, 101] : List UInt8)) = false := bne_eq_false_iff_eq.mpr c11
                      clear c11
                      obtain rfl := Option.some.inj H
                      go_enter Try.func14, Try.ntmps14
                      go_wp2
                      go_ret
                      exact ⟨by first | rfl | (simp; done) | (simp [*]; done), by repeat (first | exact Drawn0.refl _ | apply Drawn0.step)⟩
                    · rw [if_neg c11] at H
                      have c11b0 : (a0.toList == ([110, 111, 110, 101] : List UInt8)) = false := beq_eq_false_iff_ne.mpr c11
                      have c11b1 : (a0.toList != ([110, 111, 110, 101] : List UInt8)) = true := bne_iff_ne.mpr c11
                      by_cases c12 : a0.toList = ([116, 114, 117, 101] : List UInt8)
                      · rw [if_pos c12] at H
                        have c12b0 : (a0.toList == ([116, 114, 117, 101] : List UInt8)) = true := beq_iff_eq.mpr c12
                        have c12b1 : (a0.toList != ([116, 114, 117, 101] : List UInt8)) = false := bne_eq_false_iff_eq.mpr c12
                        clear c12
                        obtain rfl := Option.some.inj H
                        go_enter Try.func14, Try.ntmps14
                        go_wp2
                        go_ret
                        exact ⟨by first | rfl | (simp; done) | (simp [*]; done), by repeat (first | exact Drawn0.refl _ | apply Drawn0.step)⟩
                      · rw [if_neg c12] at H
                        have c12b0 : (a0.toList == ([116, 114, 117, 101] : List UInt8)) = false := beq_eq_false_iff_ne.mpr c12
                        have c12b1 : (a0.toList != ([116, 114, 117, 101] : List UInt8)) = true := bne_iff_ne.mpr c12
                        by_cases c13 : a0.toList = ([102, 97, 108, 115, 101] : List UInt8)
                        · rw [if_pos c13] at H
                          have c13b0 : (a0.toList == ([102, 97, 108, 115, 101] : List UInt8)) = true := beq_iff_eq.mpr c13
                          have c13b1 : (a0.toList != ([102, 97, 108, 115, 101] : List UInt8)) = false := bne_eq_false_iff_eq.mpr c13
                          clear c13
                          obtain rfl := Option.some.inj H
                          go_enter Try.func14, Try.ntmps14
                          go_wp2
                          go_ret
                          exact ⟨by first | rfl | (simp; done) | (simp [*]; done), by repeat (first | exact Drawn0.refl _ | apply Drawn0.step)⟩
                        · rw [if_neg c13] at H
                          have c13b0 : (a0.toList == ([102, 97, 108, 115, 101] : List UInt8)) = false := beq_eq_false_iff_ne.mpr c13
                          have c13b1 : (a0.toList != ([102, 97, 108, 115, 101] : List UInt8)) = true := bne_iff_ne.mpr c13
                          by_cases c14 : a0.toList = ([111, 114] : List UInt8)
                          · rw [if_pos c14] at H
                            have c14b0 : (a0.toList == ([111, 114] : List UInt8)) = true := beq_iff_eq.mpr c14
                            have c14b1 : (a0.toList != ([111, 114] : List UInt8)) = false := bne_eq_false_iff_eq.mpr c14
                            clear c14
                            obtain rfl := Option.some.inj H
                            go_enter Try.func14, Try.ntmps14
                            go_wp2
                            go_ret
                            exact ⟨by first | rfl | (simp; done) | (simp [*]; done), by repeat (first | exact Drawn0.refl _ | apply Drawn0.step)⟩
                          · rw [if_neg c14] at H
                            have c14b0 : (a0.toList == ([111, 114] : List UInt8)) = false := beq_eq_false_iff_ne.mpr c14
                            have c14b1 : (a0.toList != ([111, 114] : List UInt8)) = true := bne_iff_ne.mpr c14
                            by_cases c15 : a0.toList = ([97, 110, 100] : List UInt8)
                            · rw [if_pos c15] at H
                              have c15b0 : (a0.toList == ([97, 110, 100] : List UInt8)) = true := beq_iff_eq.mpr c15
                              have c15b1 : (a0.toList != ([97, 110, 100] : List UInt8)) = false := bne_eq_false_iff_eq.mpr c15
                              clear c15
                              obtain rfl := Option.some.inj H
                              go_enter Try.func14, Try.ntmps14
                              go_wp2
                              go_ret
                              exact ⟨by first | rfl | (simp; done) | (simp [*]; done), by repeat (first | exact Drawn0.refl _ | apply Drawn0.step)⟩
                            · rw [if_neg c15] at H
                              have c15b0 : (a0.toList == ([97, 110, 100] : List UInt8)) = false := beq_eq_false_iff_ne.mpr c15
                              have c15b1 : (a0.toList != ([97, 110, 100] : List UInt8)) = true := bne_iff_ne.mpr c15
                              by_cases c16 : a0.toList = ([110, 111, 116] : List UInt8)
                              · rw [if_pos c16] at H
                                have c16b0 : (a0.toList == ([110, 111, 116] : List UInt8)) = true := beq_iff_eq.mpr c16
                                have c16b1 : (a0.toList != ([110, 111, 116] : List UInt8)) = false := bne_eq_false_iff_eq.mpr c16
                                clear c16
                                obtain rfl := Option.some.inj H
                                go_enter Try.func14, Try.ntmps14
                                go_wp2
                                go_ret
                                exact ⟨by first | rfl | (simp; done) | (simp [*]; done), by repeat (first | exact Drawn0.refl _ | apply Drawn0.step)⟩
                              · rw [if_neg c16] at H
                                have c16b0 : (a0.toList == ([110, 111, 116] : List UInt8)) = false := beq_eq_false_iff_ne.mpr c16
                                have c16b1 : (a0.toList != ([110, 111, 116] : List UInt8)) = true := bne_iff_ne.mpr c16
                                by_cases c17 : a0.toList = ([108, 101, 110] : List UInt8)
                                · rw [if_pos c17] at H
                                  have c17b0 : (a0.toList == ([108, 101, 110] : List UInt8)) = true := beq_iff_eq.mpr c17
                                  have c17b1 : (a0.toList != ([108, 101, 110] : List UInt8)) = false := bne_eq_false_iff_eq.mpr c17
                                  clear c17
                                  obtain rfl := Option.some.inj H
                                  go_enter Try.func14, Try.ntmps14
                                  go_wp2
                                  go_ret
                                  exact ⟨by first | rfl | (simp; done) | (simp [*]; done), by repeat (first | exact Drawn0.refl _ | apply Drawn0.step)⟩
                                · rw [if_neg c17] at H
                                  have c17b0 : (a0.toList == ([108, 101, 110] : List UInt8)) = false := beq_eq_false_iff_ne.mpr c17
                                  have c17b1 : (a0.toList != ([108, 101, 110] : List UInt8)) = true := bne_iff_ne.mpr c17
                                  by_cases c18 : a0.toList = ([110, 117, 109] : List UInt8)
                                  · rw [if_pos c18] at H
                                    have c18b0 : (a0.toList == ([110, 117, 109] : List UInt8)) = true := beq_iff_eq.mpr c18
                                    have c18b1 : (a0.toList != ([110, 117, 109] : List UInt8)) = false := bne_eq_false_iff_eq.mpr c18
                                    clear c18
                                    obtain rfl := Option.some.inj H
                                    go_enter Try.func14, Try.ntmps14
                                    go_wp2
                                    go_ret
                                    exact ⟨by first | rfl | (simp; done) | (simp [*]; done), by repeat (first | exact Drawn0.refl _ | apply Drawn0.step)⟩
                                  · rw [if_neg c18] at H
                                    have c18b0 : (a0.toList == ([110, 117, 109] : List UInt8)) = false := beq_eq_false_iff_ne.mpr c18
                                    have c18b1 : (a0.toList != ([110, 117, 109] : List UInt8)) = true := bne_iff_ne.mpr c18
                                    by_cases c19 : a0.toList = ([114, 101] : List UInt8)
                                    · rw [if_pos c19] at H
                                      have c19b0 : (a0.toList == ([114, 101] : List UInt8)) = true := beq_iff_eq.mpr c19
                                      have c19b1 : (a0.toList != ([114, 101] : List UInt8)) = false := bne_eq_false_iff_eq.mpr c19
                                      clear c19
                                      obtain rfl := Option.some.inj H
                                      go_enter Try.func14, Try.ntmps14
                                      go_wp2
                                      go_ret
                                      exact ⟨by first | rfl | (simp; done) | (simp [*]; done), by repeat (first | exact Drawn0.refl _ | apply Drawn0.step)⟩
                                    · rw [if_neg c19] at H
                                      have c19b0 : (a0.toList == ([114, 101] : List UInt8)) = false := beq_eq_false_iff_ne.mpr c19
                                      have c19b1 : (a0.toList != ([114, 101] : List UInt8)) = true := bne_iff_ne.mpr c19
                                      by_cases c20 : a0.toList = ([105, 109] : List UInt8)
                                      · rw [if_pos c20] at H
                                        have c20b0 : (a0.toList == ([105, 109] : List UInt8)) = true := beq_iff_eq.mpr c20
                                        have c20b1 : (a0.toList != ([105, 109] : List UInt8)) = false := bne_eq_false_iff_eq.mpr c20
                                        clear c20
                                        obtain rfl := Option.some.inj H
                                        go_enter Try.func14, Try.ntmps14
                                        go_wp2
                                        go_ret
                                        exact ⟨by first | rfl | (simp; done) | (simp [*]; done), by repeat (first | exact Drawn0.refl _ | apply Drawn0.step)⟩
                                      · rw [if_neg c20] at H
                                        have c20b0 : (a0.toList == ([105, 109] : List UInt8)) = false := beq_eq_false_iff_ne.mpr c20
                                        have c20b1 : (a0.toList != ([105, 109] : List UInt8)) = true := bne_iff_ne.mpr c20
                                        by_cases c21 : a0.toList = ([99, 111, 110, 106] : List UInt8)
                                        · rw [if_pos c21] at H
                                          have c21b0 : (a0.toList == ([99, 111, 110, 106] : List UInt8)) = true := beq_iff_eq.mpr c21
                                          have c21b1 : (a0.toList != ([99, 111, 110, 106] : List UInt8)) = false := bne_eq_false_iff_eq.mpr c21
                                          clear c21
                                          obtain rfl := Option.some.inj H
                                          go_enter Try.func14, Try.ntmps14
                                          go_wp2
                                          go_ret
                                          exact ⟨by first | rfl | (simp; done) | (simp [*]; done), by repeat (first | exact Drawn0.refl _ | apply Drawn0.step)⟩
                                        · rw [if_neg c21] at H
                                          have c21b0 : (a0.toList == ([99, 111, 110, 106] : List UInt8)) = false := beq_eq_false_iff_ne.mpr c21
                                          have c21b1 : (a0.toList != ([99, 111, 110, 106] : List UInt8)) = true := bne_iff_ne.mpr c21
                                          by_cases c22 : a0.toList = ([99, 97, 108, 108] : List UInt8)
                                          · rw [if_pos c22] at H
                                            have c22b0 : (a0.toList == ([99, 97, 108, 108] : List UInt8)) = true := beq_iff_eq.mpr c22
                                            have c22b1 : (a0.toList != ([99, 97, 108, 108] : List UInt8)) = false := bne_eq_false_iff_eq.mpr c22
                                            clear c22
                                            obtain rfl := Option.some.inj H
                                            go_enter Try.func14, Try.ntmps14
                                            go_wp2
                                            go_ret
                                            exact ⟨by first | rfl | (simp; done) | (simp [*]; done), by repeat (first | exact Drawn0.refl _ | apply Drawn0.step)⟩
                                          · rw [if_neg c22] at H
                                            have c22b0 : (a0.toList == ([99, 97, 108, 108] : List UInt8)) = false := beq_eq_false_iff_ne.mpr c22
                                            have c22b1 : (a0.toList != ([99, 97, 108, 108] : List UInt8)) = true := bne_iff_ne.mpr c22
                                            by_cases c23 : a0.toList = ([99, 104, 105, 108, 100] : List UInt8)
                                            · rw [if_pos c23] at H
                                              have c23b0 : (a0.toList == ([99, 104, 105, 108, 100] : List UInt8)) = true := beq_iff_eq.mpr c23
                                              have c23b1 : (a0.toList != ([99, 104, 105, 108, 100] : List UInt8)) = false := bne_eq_false_iff_eq.mpr c23
                                              clear c23
                                              obtain rfl := Option.some.inj H
                                              go_enter Try.func14, Try.ntmps14
                                              go_wp2
                                              go_ret
                                              exact ⟨by first | rfl | (simp; done) | (simp [*]; done), by repeat (first | exact Drawn0.refl _ | apply Drawn0.step)⟩
                                            · rw [if_neg c23] at H
                                              have c23b0 : (a0.toList == ([99, 104, 105, 108, 100] : List UInt8)) = false := beq_eq_false_iff_ne.mpr c23
                                              have c23b1 : (a0.toList != ([99, 104, 105, 108, 100] : List UInt8)) = true := bne_iff_ne.mpr c23
                                              by_cases c24 : a0.toList = ([116, 105, 109, 101, 114] : List UInt8)
                                              · rw [if_pos c24] at H
                                                have c24b0 : (a0.toList == ([116, 105, 109, 101, 114] : List UInt8)) = true := beq_iff_eq.mpr c24
                                                have c24b1 : (a0.toList != ([116, 105, 109, 101, 114] : List UInt8)) = false := bne_eq_false_iff_eq.mpr c24
                                                clear c24
                                                obtain rfl := Option.some.inj H
                                                go_enter Try.func14, Try.ntmps14
                                                go_wp2
                                                go_ret
                                                exact ⟨by first | rfl | (simp; done) | (simp [*]; done), by repeat (first | exact Drawn0.refl _ | apply Drawn0.step)⟩
                                              · rw [if_neg c24] at H
                                                have c24b0 : (a0.toList == ([116, 105, 109, 101, 114] : List UInt8)) = false := beq_eq_false_iff_ne.mpr c24
                                                have c24b1 : (a0.toList != ([116, 105, 109, 101, 114] : List UInt8)) = true := bne_iff_ne.mpr c24
                                                by_cases c25 : a0.toList = ([102, 111, 114, 107] : List UInt8)
                                                · rw [if_pos c25] at H
                                                  have c25b0 : (a0.toList == ([102, 111, 114, 107] : List UInt8)) = true := beq_iff_eq.mpr c25
                                                  have c25b1 : (a0.toList != ([102, 111, 114, 107] : List UInt8)) = false := bne_eq_false_iff_eq.mpr c25
                                                  clear c25
                                                  obtain rfl := Option.some.inj H
                                                  go_enter Try.func14, Try.ntmps14
                                                  go_wp2
                                                  go_ret
                                                  exact ⟨by first | rfl | (simp; done) | (simp [*]; done), by repeat (first | exact Drawn0.refl _ | apply Drawn0.step)⟩
                                                · rw [if_neg c25] at H
                                                  have c25b0 : (a0.toList == ([102, 111, 114, 107] : List UInt8)) = false := beq_eq_false_iff_ne.mpr c25
                                                  have c25b1 : (a0.toList != ([102, 111, 114, 107] : List UInt8)) = true := bne_iff_ne.mpr c25
                                                  by_cases c26 : a0.toList = ([97, 119, 97, 105, 116] : List UInt8)
                                                  · rw [if_pos c26] at H
                                                    have c26b0 : (a0.toList == ([97, 119, 97, 105, 116] : List UInt8)) = true := beq_iff_eq.mpr c26
                                                    have c26b1 : (a0.toList != ([97, 119, 97, 105, 116] : List UInt8)) = false := bne_eq_false_iff_eq.mpr c26
                                                    clear c26
                                                    obtain rfl := Option.some.inj H
                                                    go_enter Try.func14, Try.ntmps14
                                                    go_wp2
                                                    go_ret
                                                    exact ⟨by first | rfl | (simp; done) | (simp [*]; done), by repeat (first | exact Drawn0.refl _ | apply Drawn0.step)⟩
                                                  · rw [if_neg c26] at H
                                                    have c26b0 : (a0.toList == ([97, 119, 97, 105, 116] : List UInt8)) = false := beq_eq_false_iff_ne.mpr c26
                                                    have c26b1 : (a0.toList != ([97, 119, 97, 105, 116] : List UInt8)) = true := bne_iff_ne.mpr c26
                                                    by_cases c27 : a0.toList = ([115, 101, 116, 116, 108, 101] : List UInt8)
                                                    · rw [if_pos c27] at H
                                                      have c27b0 : (a0.toList == ([115, 101, 116, 116, 108, 101] : List UInt8)) = true := beq_iff_eq.mpr c27
                                                      have c27b1 : (a0.toList != ([115, 101, 116, 116, 108, 101] : List UInt8)) = false := bne_eq_false_iff_eq.mpr c27
                                                      clear c27
                                                      obtain rfl := Option.some.inj H
                                                      go_enter Try.func14, Try.ntmps14
                                                      go_wp2
                                                      go_ret
                                                      exact ⟨by first | rfl | (simp; done) | (simp [*]; done), by repeat (first | exact Drawn0.refl _ | apply Drawn0.step)⟩
                                                    · rw [if_neg c27] at H
                                                      have c27b0 : (a0.toList == ([115, 101, 116, 116, 108, 101] : List UInt8)) = false := beq_eq_false_iff_ne.mpr c27
                                                      have c27b1 : (a0.toList != ([115, 101, 116, 116, 108, 101] : List UInt8)) = true := bne_iff_ne.mpr c27
                                                      by_cases c28 : a0.toList = ([116, 97, 107, 101] : List UInt8)
                                                      · rw [if_pos c28] at H
                                                        have c28b0 : (a0.toList == ([116, 97, 107, 101] : List UInt8)) = true := beq_iff_eq.mpr c28
                                                        have c28b1 : (a0.toList != ([116, 97, 107, 101] : List UInt8)) = false := bne_eq_false_iff_eq.mpr c28
                                                        clear c28
                                                        obtain rfl := Option.some.inj H
                                                        go_enter Try.func14, Try.ntmps14
                                                        go_wp2
                                                        go_ret
                                                        exact ⟨by first | rfl | (simp; done) | (simp [*]; done), by repeat (first | exact Drawn0.refl _ | apply Drawn0.step)⟩
                                                      · rw [if_neg c28] at H
                                                        have c28b0 : (a0.toList == ([116, 97, 107, 101] : List UInt8)) = false := beq_eq_false_iff_ne.mpr c28
                                                        have c28b1 : (a0.toList != ([116, 97, 107, 101] : List UInt8)) = true := bne_iff_ne.mpr c28
                                                        by_cases c29 : a0.toList = ([118, 101, 114, 115, 105, 111, 110] : List UInt8)
                                                        · rw [if_pos c29] at H
                                                          have c29b0 : (a0.toList == ([118, 101, 114, 115, 105, 111, 110] : List UInt8)) = true := beq_iff_eq.mpr c29
                                                          have c29b1 : (a0.toList != ([118, 101, 114, 115, 105, 111, 110] : List UInt8)) = false := bne_eq_false_iff_eq.mpr c29
                                                          clear c29
                                                          obtain rfl := Option.some.inj H
                                                          go_enter Try.func14, Try.ntmps14
                                                          go_wp2
                                                          go_ret
                                                          exact ⟨by first | rfl | (simp; done) | (simp [*]; done), by repeat (first | exact Drawn0.refl _ | apply Drawn0.step)⟩
                                                        · rw [if_neg c29] at H
                                                          have c29b0 : (a0.toList == ([118, 101, 114, 115, 105, 111, 110] : List UInt8)) = false := beq_eq_false_iff_ne.mpr c29
                                                          have c29b1 : (a0.toList != ([118, 101, 114, 115, 105, 111, 110] : List UInt8)) = true := bne_iff_ne.mpr c29
                                                          obtain rfl := Option.some.inj H
                                                          go_enter Try.func14, Try.ntmps14
                                                          go_wp2
                                                          go_ret
                                                          exact ⟨by first | rfl | (simp; done) | (simp [*]; done), by repeat (first | exact Drawn0.refl _ | apply Drawn0.step)⟩
end Go.Proofs.Ytlbchdalimngjaa.P
namespace Go.Proofs.Ytlbchdalimngjaa.P
open Go.RowKit Go.Proofs.YtlbchdalimngjaaW.PrintWords Go.Proofs.YtlbchdalimngjaaW.PrintLast Go.Proofs.YtlbchdalimngjaaW.PrintMore
attribute [local go_sem] max2_int min2_int max_two min_two max_three min_three max_four min_four
set_option linter.unusedVariables false
set_option linter.unusedSimpArgs false
mutual
def value_Name.j0 : Nat → ByteArray → Bool → Option (Bool)
  | 0, _, _ => none
  | k + 1, x0, x21 => if x21 = true then (some false) else (value_Name.l0 k x0 (x0.size : Int) 0)
def value_Name.l0 : Nat → ByteArray → Int → Int → Option (Bool)
  | 0, _, _, _ => none
  | k + 1, x0, x23, x24 => if x24 < x23 then (if 0 ≤ x24 then (if x24 < (x0.size : Int) then (if (bt x0 x24) < 97 then (if (bt x0 x24) < 48 then (if (bt x0 x24) = 95 then (value_Name.l0 k x0 x23 (wrap64 (x24 + 1))) else (some false)) else (if (bt x0 x24) > 57 then (if (bt x0 x24) = 95 then (value_Name.l0 k x0 x23 (wrap64 (x24 + 1))) else (some false)) else (value_Name.l0 k x0 x23 (wrap64 (x24 + 1))))) else (if (bt x0 x24) > 122 then (if (bt x0 x24) < 48 then (if (bt x0 x24) = 95 then (value_Name.l0 k x0 x23 (wrap64 (x24 + 1))) else (some false)) else (if (bt x0 x24) > 57 then (if (bt x0 x24) = 95 then (value_Name.l0 k x0 x23 (wrap64 (x24 + 1))) else (some false)) else (value_Name.l0 k x0 x23 (wrap64 (x24 + 1))))) else (value_Name.l0 k x0 x23 (wrap64 (x24 + 1))))) else (none)) else (none)) else (some true)
end
def value_Name.f (k : Nat) (a0 : ByteArray) : Option (Bool) := if a0.toList = ([] : List UInt8) then (value_Name.j0 k a0 true) else (if (a0.size : Int) > 24 then (value_Name.j0 k a0 true) else (if 0 < (a0.size : Int) then (if (bt a0 0) < 97 then (value_Name.j0 k a0 true) else (value_Name.j0 k a0 (decide ((bt a0 0) > 122)))) else (none)))
theorem value_Name.mono_l : ∀ k, (∀ y0 y1, LeO (value_Name.j0 k y0 y1) (value_Name.j0 (k + 1) y0 y1)) ∧ (∀ y0 y1 y2, LeO (value_Name.l0 k y0 y1 y2) (value_Name.l0 (k + 1) y0 y1 y2))
  | 0 => ⟨fun _ _ r h => by simp [value_Name.j0] at h, fun _ _ _ r h => by simp [value_Name.l0] at h⟩
  | k + 1 => by
    obtain ⟨ih0, ih1⟩ := value_Name.mono_l k
    refine ⟨?_, ?_⟩
    · intro y0 y1
      unfold value_Name.j0
      repeat' first
      | (with_reducible exact ih0 _ _)
      | (with_reducible exact ih1 _ _ _)
      | (with_reducible exact LeO.refl _)
      | (with_reducible exact LeO.none _)
      | (with_reducible refine LeO.ite ?_ ?_)
      | (with_reducible refine LeO.bind ?_ (fun _ => ?_))
      | exact ih0 _ _
      | exact ih1 _ _ _
      | exact LeO.none _
      | refine LeO.ite ?_ ?_
      | refine LeO.bind ?_ (fun _ => ?_)
    · intro y0 y1 y2
      unfold value_Name.l0
      repeat' first
      | (with_reducible exact ih0 _ _)
      | (with_reducible exact ih1 _ _ _)
      | (with_reducible exact LeO.refl _)
      | (with_reducible exact LeO.none _)
      | (with_reducible refine LeO.ite ?_ ?_)
      | (with_reducible refine LeO.bind ?_ (fun _ => ?_))
      | exact ih0 _ _
      | exact ih1 _ _ _
      | exact LeO.none _
      | refine LeO.ite ?_ ?_
      | refine LeO.bind ?_ (fun _ => ?_)
theorem value_Name.mono : ∀ a0 k, LeO (value_Name.f k a0) (value_Name.f (k + 1) a0) := by
  intro a0 k
  obtain ⟨ih0, ih1⟩ := value_Name.mono_l k
  unfold value_Name.f
  repeat' first
      | (with_reducible exact ih0 _ _)
      | (with_reducible exact ih1 _ _ _)
      | (with_reducible exact LeO.refl _)
      | (with_reducible exact LeO.none _)
      | (with_reducible refine LeO.ite ?_ ?_)
      | (with_reducible refine LeO.bind ?_ (fun _ => ?_))
      | exact ih0 _ _
      | exact ih1 _ _ _
      | exact LeO.none _
      | refine LeO.ite ?_ ?_
      | refine LeO.bind ?_ (fun _ => ?_)
set_option maxHeartbeats 8000000 in
set_option maxRecDepth 100000 in
theorem value_Name.calls (k : Nat) (a0 : ByteArray) (r : Bool) (w : World) (h : value_Name.f k a0 = some r) :
    Calls Try.prog 98 #[.string a0] w fun e w' => e = .returned (.bool r) ∧ Drawn0 w w' := by
  have H : (if a0.toList = ([] : List UInt8) then (value_Name.j0 k a0 true) else (if (a0.size : Int) > 24 then (value_Name.j0 k a0 true) else (if 0 < (a0.size : Int) then (if (bt a0 0) < 97 then (value_Name.j0 k a0 true) else (value_Name.j0 k a0 (decide ((bt a0 0) > 122)))) else (none)))) = some r := h
  clear h
  have HC2 := Aside0.mk H
  clear H
  go_enter Try.func98, Try.ntmps98
  go_upto_region 1 with (fail)
  go_cut [21] (fun v21 wc => ∃ (kq : Nat) (x21_1 : Bool), v21 = .bool x21_1 ∧ Aside0 (value_Name.j0 kq a0 x21_1 = some r) ∧ Aside0 (kq ≤ k) ∧ Drawn0 w wc)
  case first =>
    have H := HC2.out
    clear HC2
    by_cases c3 : a0.toList = ([] : List UInt8)
    · rw [if_pos c3] at H
      have c3b0 : (a0.toList == ([] : List UInt8)) = true := beq_iff_eq.mpr c3
      have c3b1 : (a0.toList != ([] : List UInt8)) = false := bne_eq_false_iff_eq.mpr c3
      clear c3
      (first | rw [c3b0] | (simp only [i64_w, i32_w]; rw [c3b0]) | rw [c3b1] | skip)
      have H' := Aside0.mk H
      clear H
      go_wp2
      go_meet
      case rel => exact ⟨_, (true), (by first | rfl | (simp; done) | (simp [*]; done)), H', ⟨by first | omega | exact Nat.le_refl _⟩, by repeat (first | exact Drawn0.refl _ | apply Drawn0.step)⟩
    · rw [if_neg c3] at H
      have c3b0 : (a0.toList == ([] : List UInt8)) = false := beq_eq_false_iff_ne.mpr c3
      have c3b1 : (a0.toList != ([] : List UInt8)) = true := bne_iff_ne.mpr c3
      (first | rw [c3b0] | (simp only [i64_w, i32_w]; rw [c3b0]) | rw [c3b1] | skip)
      by_cases c4 : (a0.size : Int) > 24
      · rw [if_pos c4] at H
        have c4b0 : decide (24 < (a0.size : Int)) = true := decide_eq_true c4
        have c4b1 : decide (24 < a0.size) = true := decide_eq_true (by omega)
        clear c4
        have H' := Aside0.mk H
        clear H
        go_wp2
        go_meet
        case rel => exact ⟨_, (true), (by first | rfl | (simp; done) | (simp [*]; done)), H', ⟨by first | omega | exact Nat.le_refl _⟩, by repeat (first | exact Drawn0.refl _ | apply Drawn0.step)⟩
      · rw [if_neg c4] at H
        have c4b0 : decide (24 < (a0.size : Int)) = false := decide_eq_false c4
        have c4b1 : decide (24 < a0.size) = false := decide_eq_false (by omega)
        clear c4
        by_cases c5 : 0 < (a0.size : Int)
        · rw [if_pos c5] at H
          have c5b0 : decide (0 < (a0.size : Int)) = true := decide_eq_true c5
          have c5b1 : decide (0 < a0.size) = true := decide_eq_true (by omega)
          clear c5
          by_cases c7 : (bt a0 0) < 97
          · rw [if_pos c7] at H
            have c7b0 : decide ((bt a0 0) < 97) = true := decide_eq_true c7
            clear c7
            have H' := Aside0.mk H
            clear H
            have p6 : 0 ≤ (0 : Int) := (by omega)
            have q6 : 0 < a0.size := (by have : (0 : Int) < (a0.size : Int) := of_decide_eq_true (by first | (with_reducible assumption) | assumption); omega)
            have hx6 : ∀ h : 0 < a0.size, ((a0[0]'h).toNat : Int) = bt a0 0 := bt_at a0 0
            clear p6
            have qi6 : (0 < (a0.size : Int)) = True := eq_true (of_decide_eq_true (by first | (with_reducible assumption) | assumption))
            replace q6 := eq_true q6
            go_wp2
            go_meet
            case rel => exact ⟨_, (true), (by first | rfl | (simp; done) | (simp [*]; done)), H', ⟨by first | omega | exact Nat.le_refl _⟩, by repeat (first | exact Drawn0.refl _ | apply Drawn0.step)⟩
          · rw [if_neg c7] at H
            have c7b0 : decide ((bt a0 0) < 97) = false := decide_eq_false c7
            clear c7
            have H' := Aside0.mk H
            clear H
            have p6 : 0 ≤ (0 : Int) := (by omega)
            have q6 : 0 < a0.size := (by have : (0 : Int) < (a0.size : Int) := of_decide_eq_true (by first | (with_reducible assumption) | assumption); omega)
            have hx6 : ∀ h : 0 < a0.size, ((a0[0]'h).toNat : Int) = bt a0 0 := bt_at a0 0
            clear p6
            have qi6 : (0 < (a0.size : Int)) = True := eq_true (of_decide_eq_true (by first | (with_reducible assumption) | assumption))
            replace q6 := eq_true q6
            have p8 : 0 ≤ (0 : Int) := (by omega)
            have q8 : 0 < a0.size := (by have : (0 : Int) < (a0.size : Int) := of_decide_eq_true (by first | (with_reducible assumption) | assumption); omega)
            have hx8 : ∀ h : 0 < a0.size, ((a0[0]'h).toNat : Int) = bt a0 0 := bt_at a0 0
            clear p8
            have qi8 : (0 < (a0.size : Int)) = True := eq_true (of_decide_eq_true (by first | (with_reducible assumption) | assumption))
            replace q8 := eq_true q8
            go_wp2
            go_meet
            case rel => exact ⟨_, (decide ((bt a0 0) > 122)), (by first | rfl | (simp; done) | (simp [*]; done)), H', ⟨by first | omega | exact Nat.le_refl _⟩, by repeat (first | exact Drawn0.refl _ | apply Drawn0.step)⟩
        · rw [if_neg c5] at H
          exact absurd H (by simp)
  case rest =>
    clear HC2
    try clear p2
    try clear c3
    try clear c3b0
    try clear c3b1
    try clear c4
    try clear c4b0
    try clear c4b1
    try clear c5
    try clear c5b0
    try clear c5b1
    try clear p6
    try clear q6
    try clear hx6
    try clear qi6
    try clear c7
    try clear c7b0
    try clear p8
    try clear q8
    try clear hx8
    try clear qi8
    try clear p6
    try clear p8
    try clear q6
    try clear q8
    obtain ⟨kq, x21_1, rfl, HA, HJ1, ⟨mc1, rfl⟩⟩ := hcut
    cases kq with
    | zero => exact absurd HA.out (by simp [value_Name.j0])
    | succ kj1 =>
      have H := HA.out
      clear HA
      simp only [value_Name.j0] at H
      by_cases c9 : x21_1 = true
      · subst c9
        have H1 : (some false) = some r := by rw [if_pos rfl] at H; exact H
        clear H
        have H := H1
        clear H1
        obtain rfl := Option.some.inj H
        go_wp2
        go_ret
        exact ⟨by first | rfl | (simp; done) | (simp [*]; done), by repeat (first | exact Drawn0.refl _ | apply Drawn0.step)⟩
      · replace c9 := Bool.eq_false_iff.mpr c9
        subst c9
        have H1 : (value_Name.l0 kj1 a0 (a0.size : Int) 0) = some r := by rw [if_neg (show ¬ (false = true) by decide)] at H; exact H
        clear H
        have H := H1
        clear H1
        have H' := Aside0.mk H
        clear H
        go_wp2
        go_loopg [24] kj1 (fun kq v24 w' => ∃ (x24_2 : Int), v24 = .int .i64 x24_2 ∧ Aside0 (value_Name.l0 kq a0 (a0.size : Int) x24_2 = some r) ∧ Aside0 (kq ≤ kj1) ∧ Drawn0 w w')
        case atStart => exact ⟨(0), (by first | rfl | (simp; done) | (simp [*]; done)), H', ⟨Nat.le_refl _⟩, by repeat (first | exact Drawn0.refl _ | apply Drawn0.step)⟩
        case round =>
          clear H'
          try clear c1
          try clear p2
          try clear c3
          try clear c3b0
          try clear c3b1
          try clear c4
          try clear c4b0
          try clear c4b1
          try clear c5
          try clear c5b0
          try clear c5b1
          try clear p6
          try clear q6
          try clear hx6
          try clear qi6
          try clear c7
          try clear c7b0
          try clear p8
          try clear q8
          try clear hx8
          try clear qi8
          try clear c9
          try clear p2
          try clear p6
          try clear p8
          try clear q6
          try clear q8
          obtain ⟨x24_2, rfl, HA, HK2, ⟨m2, rfl⟩⟩ := hrel
          cases gk with
          | zero => exact absurd HA.out (by simp [value_Name.l0])
          | succ k2 =>
            have H := HA.out
            clear HA
            simp only [value_Name.l0] at H
            by_cases c10 : x24_2 < (a0.size : Int)
            · rw [if_pos c10] at H
              have c10b0 : decide (x24_2 < (a0.size : Int)) = true := decide_eq_true c10
              clear c10
              by_cases c11 : 0 ≤ x24_2
              · rw [if_pos c11] at H
                have c11b0 : decide (0 ≤ x24_2) = true := decide_eq_true c11
                clear c11
                by_cases c12 : x24_2 < (a0.size : Int)
                · rw [if_pos c12] at H
                  have c12b0 : decide (x24_2 < (a0.size : Int)) = true := decide_eq_true c12
                  clear c12
                  by_cases c14 : (bt a0 x24_2) < 97
                  · rw [if_pos c14] at H
                    have c14b0 : decide ((bt a0 x24_2) < 97) = true := decide_eq_true c14
                    clear c14
                    by_cases c15 : (bt a0 x24_2) < 48
                    · rw [if_pos c15] at H
                      have c15b0 : decide ((bt a0 x24_2) < 48) = true := decide_eq_true c15
                      clear c15
                      by_cases c16 : (bt a0 x24_2) = 95
                      · rw [if_pos c16] at H
                        have c16b0 : ((bt a0 x24_2) == 95) = true := beq_iff_eq.mpr c16
                        have c16b1 : ((bt a0 x24_2) != 95) = false := bne_eq_false_iff_eq.mpr c16
                        clear c16
                        have H' := Aside0.mk H
                        clear H
                        have p13 : 0 ≤ (x24_2 : Int) := of_decide_eq_true (by first | (with_reducible assumption) | assumption)
                        have q13 : x24_2 < (a0.size : Int) := of_decide_eq_true (by first | (with_reducible assumption) | assumption)
                        have hx13 := bt_at a0 x24_2
                        replace p13 := eq_true p13
                        replace q13 := eq_true q13
                        go_wp2
                        go_roundg k2
                        case measure => have := HJ1.out; have := HK2.out; omega
                        case rel => exact ⟨(wrap64 (x24_2 + 1)), (by first | rfl | (simp; done) | (simp [*]; done)), H', ⟨by have := HJ1.out; have := HK2.out; omega⟩, by repeat (first | exact Drawn0.refl _ | apply Drawn0.step)⟩
                      · rw [if_neg c16] at H
                        have c16b0 : ((bt a0 x24_2) == 95) = false := beq_eq_false_iff_ne.mpr c16
                        have c16b1 : ((bt a0 x24_2) != 95) = true := bne_iff_ne.mpr c16
                        obtain rfl := Option.some.inj H
                        have p13 : 0 ≤ (x24_2 : Int) := of_decide_eq_true (by first | (with_reducible assumption) | assumption)
                        have q13 : x24_2 < (a0.size : Int) := of_decide_eq_true (by first | (with_reducible assumption) | assumption)
                        have hx13 := bt_at a0 x24_2
                        replace p13 := eq_true p13
                        replace q13 := eq_true q13
                        go_wp2
                        go_ret
                        exact ⟨by first | rfl | (simp; done) | (simp [*]; done), by repeat (first | exact Drawn0.refl _ | apply Drawn0.step)⟩
                    · rw [if_neg c15] at H
                      have c15b0 : decide ((bt a0 x24_2) < 48) = false := decide_eq_false c15
                      clear c15
                      by_cases c17 : (bt a0 x24_2) > 57
                      · rw [if_pos c17] at H
                        have c17b0 : decide (57 < (bt a0 x24_2)) = true := decide_eq_true c17
                        clear c17
                        by_cases c18 : (bt a0 x24_2) = 95
                        · rw [if_pos c18] at H
                          have c18b0 : ((bt a0 x24_2) == 95) = true := beq_iff_eq.mpr c18
                          have c18b1 : ((bt a0 x24_2) != 95) = false := bne_eq_false_iff_eq.mpr c18
                          clear c18
                          have H' := Aside0.mk H
                          clear H
                          have p13 : 0 ≤ (x24_2 : Int) := of_decide_eq_true (by first | (with_reducible assumption) | assumption)
                          have q13 : x24_2 < (a0.size : Int) := of_decide_eq_true (by first | (with_reducible assumption) | assumption)
                          have hx13 := bt_at a0 x24_2
                          replace p13 := eq_true p13
                          replace q13 := eq_true q13
                          go_wp2
                          go_roundg k2
                          case measure => have := HJ1.out; have := HK2.out; omega
                          case rel => exact ⟨(wrap64 (x24_2 + 1)), (by first | rfl | (simp; done) | (simp [*]; done)), H', ⟨by have := HJ1.out; have := HK2.out; omega⟩, by repeat (first | exact Drawn0.refl _ | apply Drawn0.step)⟩
                        · rw [if_neg c18] at H
                          have c18b0 : ((bt a0 x24_2) == 95) = false := beq_eq_false_iff_ne.mpr c18
                          have c18b1 : ((bt a0 x24_2) != 95) = true := bne_iff_ne.mpr c18
                          obtain rfl := Option.some.inj H
                          have p13 : 0 ≤ (x24_2 : Int) := of_decide_eq_true (by first | (with_reducible assumption) | assumption)
                          have q13 : x24_2 < (a0.size : Int) := of_decide_eq_true (by first | (with_reducible assumption) | assumption)
                          have hx13 := bt_at a0 x24_2
                          replace p13 := eq_true p13
                          replace q13 := eq_true q13
                          go_wp2
                          go_ret
                          exact ⟨by first | rfl | (simp; done) | (simp [*]; done), by repeat (first | exact Drawn0.refl _ | apply Drawn0.step)⟩
                      · rw [if_neg c17] at H
                        have c17b0 : decide (57 < (bt a0 x24_2)) = false := decide_eq_false c17
                        clear c17
                        have H' := Aside0.mk H
                        clear H
                        have p13 : 0 ≤ (x24_2 : Int) := of_decide_eq_true (by first | (with_reducible assumption) | assumption)
                        have q13 : x24_2 < (a0.size : Int) := of_decide_eq_true (by first | (with_reducible assumption) | assumption)
                        have hx13 := bt_at a0 x24_2
                        replace p13 := eq_true p13
                        replace q13 := eq_true q13
                        go_wp2
                        go_roundg k2
                        case measure => have := HJ1.out; have := HK2.out; omega
                        case rel => exact ⟨(wrap64 (x24_2 + 1)), (by first | rfl | (simp; done) | (simp [*]; done)), H', ⟨by have := HJ1.out; have := HK2.out; omega⟩, by repeat (first | exact Drawn0.refl _ | apply Drawn0.step)⟩
                  · rw [if_neg c14] at H
                    have c14b0 : decide ((bt a0 x24_2) < 97) = false := decide_eq_false c14
                    clear c14
                    by_cases c19 : (bt a0 x24_2) > 122
                    · rw [if_pos c19] at H
                      have c19b0 : decide (122 < (bt a0 x24_2)) = true := decide_eq_true c19
                      clear c19
                      by_cases c20 : (bt a0 x24_2) < 48
                      · rw [if_pos c20] at H
                        have c20b0 : decide ((bt a0 x24_2) < 48) = true := decide_eq_true c20
                        clear c20
                        by_cases c21 : (bt a0 x24_2) = 95
                        · rw [if_pos c21] at H
                          have c21b0 : ((bt a0 x24_2) == 95) = true := beq_iff_eq.mpr c21
                          have c21b1 : ((bt a0 x24_2) != 95) = false := bne_eq_false_iff_eq.mpr c21
                          clear c21
                          have H' := Aside0.mk H
                          clear H
                          have p13 : 0 ≤ (x24_2 : Int) := of_decide_eq_true (by first | (with_reducible assumption) | assumption)
                          have q13 : x24_2 < (a0.size : Int) := of_decide_eq_true (by first | (with_reducible assumption) | assumption)
                          have hx13 := bt_at a0 x24_2
                          replace p13 := eq_true p13
                          replace q13 := eq_true q13
                          go_wp2
                          go_roundg k2
                          case measure => have := HJ1.out; have := HK2.out; omega
                          case rel => exact ⟨(wrap64 (x24_2 + 1)), (by first | rfl | (simp; done) | (simp [*]; done)), H', ⟨by have := HJ1.out; have := HK2.out; omega⟩, by repeat (first | exact Drawn0.refl _ | apply Drawn0.step)⟩
                        · rw [if_neg c21] at H
                          have c21b0 : ((bt a0 x24_2) == 95) = false := beq_eq_false_iff_ne.mpr c21
                          have c21b1 : ((bt a0 x24_2) != 95) = true := bne_iff_ne.mpr c21
                          obtain rfl := Option.some.inj H
                          have p13 : 0 ≤ (x24_2 : Int) := of_decide_eq_true (by first | (with_reducible assumption) | assumption)
                          have q13 : x24_2 < (a0.size : Int) := of_decide_eq_true (by first | (with_reducible assumption) | assumption)
                          have hx13 := bt_at a0 x24_2
                          replace p13 := eq_true p13
                          replace q13 := eq_true q13
                          go_wp2
                          go_ret
                          exact ⟨by first | rfl | (simp; done) | (simp [*]; done), by repeat (first | exact Drawn0.refl _ | apply Drawn0.step)⟩
                      · rw [if_neg c20] at H
                        have c20b0 : decide ((bt a0 x24_2) < 48) = false := decide_eq_false c20
                        clear c20
                        by_cases c22 : (bt a0 x24_2) > 57
                        · rw [if_pos c22] at H
                          have c22b0 : decide (57 < (bt a0 x24_2)) = true := decide_eq_true c22
                          clear c22
                          by_cases c23 : (bt a0 x24_2) = 95
                          · rw [if_pos c23] at H
                            have c23b0 : ((bt a0 x24_2) == 95) = true := beq_iff_eq.mpr c23
                            have c23b1 : ((bt a0 x24_2) != 95) = false := bne_eq_false_iff_eq.mpr c23
                            clear c23
                            have H' := Aside0.mk H
                            clear H
                            have p13 : 0 ≤ (x24_2 : Int) := of_decide_eq_true (by first | (with_reducible assumption) | assumption)
                            have q13 : x24_2 < (a0.size : Int) := of_decide_eq_true (by first | (with_reducible assumption) | assumption)
                            have hx13 := bt_at a0 x24_2
                            replace p13 := eq_true p13
                            replace q13 := eq_true q13
                            go_wp2
                            go_roundg k2
                            case measure => have := HJ1.out; have := HK2.out; omega
                            case rel => exact ⟨(wrap64 (x24_2 + 1)), (by first | rfl | (simp; done) | (simp [*]; done)), H', ⟨by have := HJ1.out; have := HK2.out; omega⟩, by repeat (first | exact Drawn0.refl _ | apply Drawn0.step)⟩
                          · rw [if_neg c23] at H
                            have c23b0 : ((bt a0 x24_2) == 95) = false := beq_eq_false_iff_ne.mpr c23
                            have c23b1 : ((bt a0 x24_2) != 95) = true := bne_iff_ne.mpr c23
                            obtain rfl := Option.some.inj H
                            have p13 : 0 ≤ (x24_2 : Int) := of_decide_eq_true (by first | (with_reducible assumption) | assumption)
                            have q13 : x24_2 < (a0.size : Int) := of_decide_eq_true (by first | (with_reducible assumption) | assumption)
                            have hx13 := bt_at a0 x24_2
                            replace p13 := eq_true p13
                            replace q13 := eq_true q13
                            go_wp2
                            go_ret
                            exact ⟨by first | rfl | (simp; done) | (simp [*]; done), by repeat (first | exact Drawn0.refl _ | apply Drawn0.step)⟩
                        · rw [if_neg c22] at H
                          have c22b0 : decide (57 < (bt a0 x24_2)) = false := decide_eq_false c22
                          clear c22
                          have H' := Aside0.mk H
                          clear H
                          have p13 : 0 ≤ (x24_2 : Int) := of_decide_eq_true (by first | (with_reducible assumption) | assumption)
                          have q13 : x24_2 < (a0.size : Int) := of_decide_eq_true (by first | (with_reducible assumption) | assumption)
                          have hx13 := bt_at a0 x24_2
                          replace p13 := eq_true p13
                          replace q13 := eq_true q13
                          go_wp2
                          go_roundg k2
                          case measure => have := HJ1.out; have := HK2.out; omega
                          case rel => exact ⟨(wrap64 (x24_2 + 1)), (by first | rfl | (simp; done) | (simp [*]; done)), H', ⟨by have := HJ1.out; have := HK2.out; omega⟩, by repeat (first | exact Drawn0.refl _ | apply Drawn0.step)⟩
                    · rw [if_neg c19] at H
                      have c19b0 : decide (122 < (bt a0 x24_2)) = false := decide_eq_false c19
                      clear c19
                      have H' := Aside0.mk H
                      clear H
                      have p13 : 0 ≤ (x24_2 : Int) := of_decide_eq_true (by first | (with_reducible assumption) | assumption)
                      have q13 : x24_2 < (a0.size : Int) := of_decide_eq_true (by first | (with_reducible assumption) | assumption)
                      have hx13 := bt_at a0 x24_2
                      replace p13 := eq_true p13
                      replace q13 := eq_true q13
                      go_wp2
                      go_roundg k2
                      case measure => have := HJ1.out; have := HK2.out; omega
                      case rel => exact ⟨(wrap64 (x24_2 + 1)), (by first | rfl | (simp; done) | (simp [*]; done)), H', ⟨by have := HJ1.out; have := HK2.out; omega⟩, by repeat (first | exact Drawn0.refl _ | apply Drawn0.step)⟩
                · rw [if_neg c12] at H
                  exact absurd H (by simp)
              · rw [if_neg c11] at H
                exact absurd H (by simp)
            · rw [if_neg c10] at H
              have c10b0 : decide (x24_2 < (a0.size : Int)) = false := decide_eq_false c10
              clear c10
              obtain rfl := Option.some.inj H
              go_wp2
              go_ret
              exact ⟨by first | rfl | (simp; done) | (simp [*]; done), by repeat (first | exact Drawn0.refl _ | apply Drawn0.step)⟩
def tree_own.f (k : Nat) (a0 : ByteArray) : Option (Bool) := (value_Name.f k a0).bind fun t345 => (if t345 = true then ((token_Keyword.f a0).bind fun t346 => (some (!t346))) else (some false))
theorem tree_own.mono : ∀ a0 k, LeO (tree_own.f k a0) (tree_own.f (k + 1) a0) := by
  intro a0 k
  unfold tree_own.f
  repeat' first
      | (with_reducible exact value_Name.mono _ _)
      | (with_reducible exact LeO.refl _)
      | (with_reducible exact LeO.none _)
      | (with_reducible refine LeO.ite ?_ ?_)
      | (with_reducible refine LeO.bind ?_ (fun _ => ?_))
      | exact value_Name.mono _ _
      | exact LeO.none _
      | refine LeO.ite ?_ ?_
      | refine LeO.bind ?_ (fun _ => ?_)
set_option maxHeartbeats 8000000 in
set_option maxRecDepth 100000 in
theorem tree_own.calls (k : Nat) (a0 : ByteArray) (r : Bool) (w : World) (h : tree_own.f k a0 = some r) :
    Calls Try.prog 69 #[.string a0] w fun e w' => e = .returned (.bool r) ∧ Drawn0 w w' := by
  have H : ((value_Name.f k a0).bind fun t345 => (if t345 = true then ((token_Keyword.f a0).bind fun t346 => (some (!t346))) else (some false))) = some r := h
  clear h
  replace H := Option.bind_eq_some_iff.mp H
  obtain ⟨t345, A20, H⟩ := H
  replace H : (if t345 = true then ((token_Keyword.f a0).bind fun t346 => (some (!t346))) else (some false)) = some r := H
  have A2 := Aside0.mk A20
  clear A20
  by_cases c3 : t345 = true
  · subst c3
    have H1 : ((token_Keyword.f a0).bind fun t346 => (some (!t346))) = some r := by rw [if_pos rfl] at H; exact H
    clear H
    have H := H1
    clear H1
    replace H := Option.bind_eq_some_iff.mp H
    obtain ⟨t346, A40, H⟩ := H
    replace H : (some (!t346)) = some r := H
    have A4 := Aside0.mk A40
    clear A40
    obtain rfl := Option.some.inj H
    go_enter Try.func69, Try.ntmps69
    go_wp2_with (first | ((with_reducible refine gate_callee (f := 98) rfl ?_); refine goesL_ (some 4) rfl rfl Try.func98 (by kernel_rfl) rfl #[.string a0] rfl (by (try simp only [List.map_toArray, List.map_cons, List.map_nil]); first | done | rfl | (simp only [List.length_drop, List.length_take]; rfl)) ?_; (with_reducible refine (value_Name.calls k a0 true _ A2.out).mono ?_); rintro e w' ⟨rfl, ⟨nd, rfl⟩⟩; refine ⟨_, rfl, ?_⟩) | (go_at_call 14; (with_reducible refine (token_Keyword.calls a0 t346 _ A4.out).mono ?_); rintro e w' ⟨rfl, ⟨nd, rfl⟩⟩))
    go_ret
    exact ⟨by first | rfl | (simp; done) | (simp [*]; done), by repeat (first | exact Drawn0.refl _ | apply Drawn0.step)⟩
  · replace c3 := Bool.eq_false_iff.mpr c3
    subst c3
    have H1 : (some false) = some r := by rw [if_neg (show ¬ (false = true) by decide)] at H; exact H
    clear H
    have H := H1
    clear H1
    obtain rfl := Option.some.inj H
    go_enter Try.func69, Try.ntmps69
    go_wp2_with (first | ((with_reducible refine gate_callee (f := 98) rfl ?_); refine goesL_ (some 4) rfl rfl Try.func98 (by kernel_rfl) rfl #[.string a0] rfl (by (try simp only [List.map_toArray, List.map_cons, List.map_nil]); first | done | rfl | (simp only [List.length_drop, List.length_take]; rfl)) ?_; (with_reducible refine (value_Name.calls k a0 false _ A2.out).mono ?_); rintro e w' ⟨rfl, ⟨nd, rfl⟩⟩; refine ⟨_, rfl, ?_⟩))
    go_ret
    exact ⟨by first | rfl | (simp; done) | (simp [*]; done), by repeat (first | exact Drawn0.refl _ | apply Drawn0.step)⟩
def tree_params.f (a0 : Int) (a1 : Int) (a2 : Int) : Option (Bool) := if a0 < (wrap64 (a1 - 1)) then (if a2 = 2 then (some true) else (if a0 = (wrap64 (a1 - 1)) then (some (a2 == 3)) else (some false))) else (if a0 = (wrap64 (a1 - 1)) then (some (a2 == 3)) else (some false))
set_option maxHeartbeats 8000000 in
set_option maxRecDepth 100000 in
theorem tree_params.calls (a0 : Int) (a1 : Int) (a2 : Int) (r : Bool) (w : World) (h : tree_params.f a0 a1 a2 = some r) :
    Calls Try.prog 70 #[.int .i64 a0, .int .i64 a1, .int .u8 a2] w fun e w' => e = .returned (.bool r) ∧ Drawn0 w w' := by
  have H : (if a0 < (wrap64 (a1 - 1)) then (if a2 = 2 then (some true) else (if a0 = (wrap64 (a1 - 1)) then (some (a2 == 3)) else (some false))) else (if a0 = (wrap64 (a1 - 1)) then (some (a2 == 3)) else (some false))) = some r := h
  clear h
  by_cases c4 : a0 < (wrap64 (a1 - 1))
  · rw [if_pos c4] at H
    have c4b0 : decide (a0 < (wrap64 (a1 - 1))) = true := decide_eq_true c4
    clear c4
    by_cases c5 : a2 = 2
    · rw [if_pos c5] at H
      have c5b0 : (a2 == 2) = true := beq_iff_eq.mpr c5
      have c5b1 : (a2 != 2) = false := bne_eq_false_iff_eq.mpr c5
      clear c5
      obtain rfl := Option.some.inj H
      go_enter Try.func70, Try.ntmps70
      go_wp2
      go_ret
      exact ⟨by first | rfl | (simp; done) | (simp [*]; done), by repeat (first | exact Drawn0.refl _ | apply Drawn0.step)⟩
    · rw [if_neg c5] at H
      have c5b0 : (a2 == 2) = false := beq_eq_false_iff_ne.mpr c5
      have c5b1 : (a2 != 2) = true := bne_iff_ne.mpr c5
      by_cases c6 : a0 = (wrap64 (a1 - 1))
      · rw [if_pos c6] at H
        have c6b0 : (a0 == (wrap64 (a1 - 1))) = true := beq_iff_eq.mpr c6
        have c6b1 : (a0 != (wrap64 (a1 - 1))) = false := bne_eq_false_iff_eq.mpr c6
        clear c6
        obtain rfl := Option.some.inj H
        go_enter Try.func70, Try.ntmps70
        go_wp2
        go_ret
        exact ⟨by first | rfl | (simp; done) | (simp [*]; done), by repeat (first | exact Drawn0.refl _ | apply Drawn0.step)⟩
      · rw [if_neg c6] at H
        have c6b0 : (a0 == (wrap64 (a1 - 1))) = false := beq_eq_false_iff_ne.mpr c6
        have c6b1 : (a0 != (wrap64 (a1 - 1))) = true := bne_iff_ne.mpr c6
        obtain rfl := Option.some.inj H
        go_enter Try.func70, Try.ntmps70
        go_wp2
        go_ret
        exact ⟨by first | rfl | (simp; done) | (simp [*]; done), by repeat (first | exact Drawn0.refl _ | apply Drawn0.step)⟩
  · rw [if_neg c4] at H
    have c4b0 : decide (a0 < (wrap64 (a1 - 1))) = false := decide_eq_false c4
    clear c4
    by_cases c7 : a0 = (wrap64 (a1 - 1))
    · rw [if_pos c7] at H
      have c7b0 : (a0 == (wrap64 (a1 - 1))) = true := beq_iff_eq.mpr c7
      have c7b1 : (a0 != (wrap64 (a1 - 1))) = false := bne_eq_false_iff_eq.mpr c7
      clear c7
      obtain rfl := Option.some.inj H
      go_enter Try.func70, Try.ntmps70
      go_wp2
      go_ret
      exact ⟨by first | rfl | (simp; done) | (simp [*]; done), by repeat (first | exact Drawn0.refl _ | apply Drawn0.step)⟩
    · rw [if_neg c7] at H
      have c7b0 : (a0 == (wrap64 (a1 - 1))) = false := beq_eq_false_iff_ne.mpr c7
      have c7b1 : (a0 != (wrap64 (a1 - 1))) = true := bne_iff_ne.mpr c7
      obtain rfl := Option.some.inj H
      go_enter Try.func70, Try.ntmps70
      go_wp2
      go_ret
      exact ⟨by first | rfl | (simp; done) | (simp [*]; done), by repeat (first | exact Drawn0.refl _ | apply Drawn0.step)⟩
def tree_nothing.f (a0 : Int) (a1 : Int) (a2 : Int) : Option (Bool) := some false
set_option maxHeartbeats 8000000 in
set_option maxRecDepth 100000 in
theorem tree_nothing.calls (a0 : Int) (a1 : Int) (a2 : Int) (r : Bool) (w : World) (h : tree_nothing.f a0 a1 a2 = some r) :
    Calls Try.prog 71 #[.int .i64 a0, .int .i64 a1, .int .u8 a2] w fun e w' => e = .returned (.bool r) ∧ Drawn0 w w' := by
  have H : (some false) = some r := h
  clear h
  obtain rfl := Option.some.inj H
  go_enter Try.func71, Try.ntmps71
  go_wp2
  go_ret
  exact ⟨by first | rfl | (simp; done) | (simp [*]; done), by repeat (first | exact Drawn0.refl _ | apply Drawn0.step)⟩
def tree_empty.f (a0 : ByteArray) : Option (Bool) := some (a0.toList == ([] : List UInt8))
set_option maxHeartbeats 8000000 in
set_option maxRecDepth 100000 in
theorem tree_empty.calls (a0 : ByteArray) (r : Bool) (w : World) (h : tree_empty.f a0 = some r) :
    Calls Try.prog 72 #[.string a0] w fun e w' => e = .returned (.bool r) ∧ Drawn0 w w' := by
  have H : (some (a0.toList == ([] : List UInt8))) = some r := h
  clear h
  obtain rfl := Option.some.inj H
  go_enter Try.func72, Try.ntmps72
  go_wp2
  go_ret
  exact ⟨by first | rfl | (simp; done) | (simp [*]; done), by repeat (first | exact Drawn0.refl _ | apply Drawn0.step)⟩
def tree_stmt.f (a0 : Int) (a1 : Int) (a2 : Int) : Option (Bool) := (tree_Statement.f a2).bind fun t347 => (some t347)
set_option maxHeartbeats 8000000 in
set_option maxRecDepth 100000 in
theorem tree_stmt.calls (a0 : Int) (a1 : Int) (a2 : Int) (r : Bool) (w : World) (h : tree_stmt.f a0 a1 a2 = some r) :
    Calls Try.prog 73 #[.int .i64 a0, .int .i64 a1, .int .u8 a2] w fun e w' => e = .returned (.bool r) ∧ Drawn0 w w' := by
  have H : ((tree_Statement.f a2).bind fun t347 => (some t347)) = some r := h
  clear h
  replace H := Option.bind_eq_some_iff.mp H
  obtain ⟨t347, A40, H⟩ := H
  replace H : (some t347) = some r := H
  have A4 := Aside0.mk A40
  clear A40
  obtain rfl := Option.some.inj H
  go_enter Try.func73, Try.ntmps73
  go_wp2_with (first | ((with_reducible refine gate_callee (f := 18) rfl ?_); refine goesL_ (some 8) rfl rfl Try.func18 (by kernel_rfl) rfl #[.int .u8 a2] rfl (by (try simp only [List.map_toArray, List.map_cons, List.map_nil]); first | done | rfl | (simp only [List.length_drop, List.length_take]; rfl)) ?_; (with_reducible refine (tree_Statement.calls a2 t347 _ A4.out).mono ?_); rintro e w' ⟨rfl, ⟨nd, rfl⟩⟩; refine ⟨_, rfl, ?_⟩))
  go_ret
  exact ⟨by first | rfl | (simp; done) | (simp [*]; done), by repeat (first | exact Drawn0.refl _ | apply Drawn0.step)⟩
def tree_headed.f (k : Nat) (a0 : Int) (a1 : Int) (a2 : Int) : Option (Bool) := if a0 = 0 then ((tree_Expression.f k a2).bind fun t348 => (if t348 = true then (some true) else (if a0 > 0 then (some (a2 == 3)) else (some false)))) else (if a0 > 0 then (some (a2 == 3)) else (some false))
theorem tree_headed.mono : ∀ a0 a1 a2 k, LeO (tree_headed.f k a0 a1 a2) (tree_headed.f (k + 1) a0 a1 a2) := by
  intro a0 a1 a2 k
  unfold tree_headed.f
  repeat' first
      | (with_reducible exact tree_Expression.mono _ _)
      | (with_reducible exact LeO.refl _)
      | (with_reducible exact LeO.none _)
      | (with_reducible refine LeO.ite ?_ ?_)
      | (with_reducible refine LeO.bind ?_ (fun _ => ?_))
      | exact tree_Expression.mono _ _
      | exact LeO.none _
      | refine LeO.ite ?_ ?_
      | refine LeO.bind ?_ (fun _ => ?_)
set_option maxHeartbeats 8000000 in
set_option maxRecDepth 100000 in
theorem tree_headed.calls (k : Nat) (a0 : Int) (a1 : Int) (a2 : Int) (r : Bool) (w : World) (h : tree_headed.f k a0 a1 a2 = some r) :
    Calls Try.prog 74 #[.int .i64 a0, .int .i64 a1, .int .u8 a2] w fun e w' => e = .returned (.bool r) ∧ Drawn0 w w' := by
  have H : (if a0 = 0 then ((tree_Expression.f k a2).bind fun t348 => (if t348 = true then (some true) else (if a0 > 0 then (some (a2 == 3)) else (some false)))) else (if a0 > 0 then (some (a2 == 3)) else (some false))) = some r := h
  clear h
  by_cases c4 : a0 = 0
  · rw [if_pos c4] at H
    have c4b0 : (a0 == 0) = true := beq_iff_eq.mpr c4
    have c4b1 : (a0 != 0) = false := bne_eq_false_iff_eq.mpr c4
    clear c4
    replace H := Option.bind_eq_some_iff.mp H
    obtain ⟨t348, A50, H⟩ := H
    replace H : (if t348 = true then (some true) else (if a0 > 0 then (some (a2 == 3)) else (some false))) = some r := H
    have A5 := Aside0.mk A50
    clear A50
    by_cases c6 : t348 = true
    · subst c6
      have H1 : (some true) = some r := by rw [if_pos rfl] at H; exact H
      clear H
      have H := H1
      clear H1
      obtain rfl := Option.some.inj H
      go_enter Try.func74, Try.ntmps74
      go_wp2_with (first | (go_at_call 16; (with_reducible refine (tree_Expression.calls k a2 true _ A5.out).mono ?_); rintro e w' ⟨rfl, ⟨nd, rfl⟩⟩))
      go_ret
      exact ⟨by first | rfl | (simp; done) | (simp [*]; done), by repeat (first | exact Drawn0.refl _ | apply Drawn0.step)⟩
    · replace c6 := Bool.eq_false_iff.mpr c6
      subst c6
      have H1 : (if a0 > 0 then (some (a2 == 3)) else (some false)) = some r := by rw [if_neg (show ¬ (false = true) by decide)] at H; exact H
      clear H
      have H := H1
      clear H1
      by_cases c7 : a0 > 0
      · rw [if_pos c7] at H
        have c7b0 : decide (0 < a0) = true := decide_eq_true c7
        clear c7
        obtain rfl := Option.some.inj H
        go_enter Try.func74, Try.ntmps74
        go_wp2_with (first | (go_at_call 16; (with_reducible refine (tree_Expression.calls k a2 false _ A5.out).mono ?_); rintro e w' ⟨rfl, ⟨nd, rfl⟩⟩))
        go_ret
        exact ⟨by first | rfl | (simp; done) | (simp [*]; done), by repeat (first | exact Drawn0.refl _ | apply Drawn0.step)⟩
      · rw [if_neg c7] at H
        have c7b0 : decide (0 < a0) = false := decide_eq_false c7
        clear c7
        obtain rfl := Option.some.inj H
        go_enter Try.func74, Try.ntmps74
        go_wp2_with (first | (go_at_call 16; (with_reducible refine (tree_Expression.calls k a2 false _ A5.out).mono ?_); rintro e w' ⟨rfl, ⟨nd, rfl⟩⟩))
        go_ret
        exact ⟨by first | rfl | (simp; done) | (simp [*]; done), by repeat (first | exact Drawn0.refl _ | apply Drawn0.step)⟩
  · rw [if_neg c4] at H
    have c4b0 : (a0 == 0) = false := beq_eq_false_iff_ne.mpr c4
    have c4b1 : (a0 != 0) = true := bne_iff_ne.mpr c4
    by_cases c8 : a0 > 0
    · rw [if_pos c8] at H
      have c8b0 : decide (0 < a0) = true := decide_eq_true c8
      clear c8
      obtain rfl := Option.some.inj H
      go_enter Try.func74, Try.ntmps74
      go_wp2
      go_ret
      exact ⟨by first | rfl | (simp; done) | (simp [*]; done), by repeat (first | exact Drawn0.refl _ | apply Drawn0.step)⟩
    · rw [if_neg c8] at H
      have c8b0 : decide (0 < a0) = false := decide_eq_false c8
      clear c8
      obtain rfl := Option.some.inj H
      go_enter Try.func74, Try.ntmps74
      go_wp2
      go_ret
      exact ⟨by first | rfl | (simp; done) | (simp [*]; done), by repeat (first | exact Drawn0.refl _ | apply Drawn0.step)⟩
end Go.Proofs.Ytlbchdalimngjaa.P
namespace Go.Proofs.Ytlbchdalimngjaa.P
open Go.RowKit Go.Proofs.YtlbchdalimngjaaW.PrintWords Go.Proofs.YtlbchdalimngjaaW.PrintLast Go.Proofs.YtlbchdalimngjaaW.PrintMore
attribute [local go_sem] max2_int min2_int max_two min_two max_three min_three max_four min_four
set_option linter.unusedVariables false
set_option linter.unusedSimpArgs false
def tree_short.f (a0 : ByteArray) : Option (Bool) := some (decide ((a0.size : Int) ≤ 4095))
set_option maxHeartbeats 8000000 in
set_option maxRecDepth 100000 in
theorem tree_short.calls (a0 : ByteArray) (r : Bool) (w : World) (h : tree_short.f a0 = some r) :
    Calls Try.prog 75 #[.string a0] w fun e w' => e = .returned (.bool r) ∧ Drawn0 w w' := by
  have H : (some (decide ((a0.size : Int) ≤ 4095))) = some r := h
  clear h
  obtain rfl := Option.some.inj H
  go_enter Try.func75, Try.ntmps75
  go_wp2
  go_ret
  exact ⟨by first | rfl | (simp; done) | (simp [*]; done), by repeat (first | exact Drawn0.refl _ | apply Drawn0.step)⟩
def tree_expr.f (k : Nat) (a0 : Int) (a1 : Int) (a2 : Int) : Option (Bool) := (tree_Expression.f k a2).bind fun t349 => (some t349)
theorem tree_expr.mono : ∀ a0 a1 a2 k, LeO (tree_expr.f k a0 a1 a2) (tree_expr.f (k + 1) a0 a1 a2) := by
  intro a0 a1 a2 k
  unfold tree_expr.f
  repeat' first
      | (with_reducible exact tree_Expression.mono _ _)
      | (with_reducible exact LeO.refl _)
      | (with_reducible exact LeO.none _)
      | (with_reducible refine LeO.ite ?_ ?_)
      | (with_reducible refine LeO.bind ?_ (fun _ => ?_))
      | exact tree_Expression.mono _ _
      | exact LeO.none _
      | refine LeO.ite ?_ ?_
      | refine LeO.bind ?_ (fun _ => ?_)
set_option maxHeartbeats 8000000 in
set_option maxRecDepth 100000 in
theorem tree_expr.calls (k : Nat) (a0 : Int) (a1 : Int) (a2 : Int) (r : Bool) (w : World) (h : tree_expr.f k a0 a1 a2 = some r) :
    Calls Try.prog 76 #[.int .i64 a0, .int .i64 a1, .int .u8 a2] w fun e w' => e = .returned (.bool r) ∧ Drawn0 w w' := by
  have H : ((tree_Expression.f k a2).bind fun t349 => (some t349)) = some r := h
  clear h
  replace H := Option.bind_eq_some_iff.mp H
  obtain ⟨t349, A40, H⟩ := H
  replace H : (some t349) = some r := H
  have A4 := Aside0.mk A40
  clear A40
  obtain rfl := Option.some.inj H
  go_enter Try.func76, Try.ntmps76
  go_wp2_with (first | ((with_reducible refine gate_callee (f := 16) rfl ?_); refine goesL_ (some 8) rfl rfl Try.func16 (by kernel_rfl) rfl #[.int .u8 a2] rfl (by (try simp only [List.map_toArray, List.map_cons, List.map_nil]); first | done | rfl | (simp only [List.length_drop, List.length_take]; rfl)) ?_; (with_reducible refine (tree_Expression.calls k a2 t349 _ A4.out).mono ?_); rintro e w' ⟨rfl, ⟨nd, rfl⟩⟩; refine ⟨_, rfl, ?_⟩))
  go_ret
  exact ⟨by first | rfl | (simp; done) | (simp [*]; done), by repeat (first | exact Drawn0.refl _ | apply Drawn0.step)⟩
def tree_block.f (a0 : Int) (a1 : Int) (a2 : Int) : Option (Bool) := some (a2 == 3)
set_option maxHeartbeats 8000000 in
set_option maxRecDepth 100000 in
theorem tree_block.calls (a0 : Int) (a1 : Int) (a2 : Int) (r : Bool) (w : World) (h : tree_block.f a0 a1 a2 = some r) :
    Calls Try.prog 77 #[.int .i64 a0, .int .i64 a1, .int .u8 a2] w fun e w' => e = .returned (.bool r) ∧ Drawn0 w w' := by
  have H : (some (a2 == 3)) = some r := h
  clear h
  obtain rfl := Option.some.inj H
  go_enter Try.func77, Try.ntmps77
  go_wp2
  go_ret
  exact ⟨by first | rfl | (simp; done) | (simp [*]; done), by repeat (first | exact Drawn0.refl _ | apply Drawn0.step)⟩
end Go.Proofs.Ytlbchdalimngjaa.P
namespace Go.Proofs.Ytlbchdalimngjaa.P
open Go.RowKit Go.Proofs.YtlbchdalimngjaaW.PrintWords Go.Proofs.YtlbchdalimngjaaW.PrintLast Go.Proofs.YtlbchdalimngjaaW.PrintMore
open Go.Instr
attribute [local go_sem] max2_int min2_int max_two min_two max_three min_three max_four min_four
set_option linter.unusedVariables false
set_option linter.unusedSimpArgs false
def formOf (op : Int) : Option Form := (formTab 58).lookup op
def textOf (k : Nat) (f : Nat) (s : ByteArray) : Option Bool :=
  if f = 69 then tree_own.f k s else if f = 72 then tree_empty.f s else if f = 75 then tree_short.f s else none
def partOf (f : Nat) (i n op : Int) : Option Bool :=
  if f = 70 then tree_params.f i n op else if f = 71 then tree_nothing.f i n op else if f = 73 then tree_stmt.f i n op
  else if f = 74 then tree_headed.f 9 i n op else if f = 76 then tree_expr.f 9 i n op else if f = 77 then tree_block.f i n op else none
def partB (f : Nat) (i n op : Int) : Bool := (partOf f i n op).getD false
def tree_Check.bad (k : Nat) (x : S43) (p : Int → Bool) : Option Bool :=
  match formOf x.f0 with
  | none => some true
  | some f => if p x.f0 = true then ((textOf k f.tx x.f3).bind fun t => if t = true then
      (if x.f1 < f.le then some true else if x.f1 > f.mo then some true else if x.f0 = 23 then some (decide (x.f2 < 0)) else if x.f2 = 0 then some false else some true) else some true) else some true
mutual
def tree_Check.walk (l : List S43) : Nat → Int → Int → (Int → Bool) → Int → Int → Option (Int × Int × Int)
  | 0, _, _, _, _, _ => none
  | k + 1, at_, lv, p, wr, dp =>
    if at_ < (l.length : Int) then (if 0 ≤ at_ then
      ((tree_Check.bad k (rd_T43 l at_) p).bind fun b => if b = true then some (at_, at_, dp) else
        tree_Check.kids l k (rd_T43 l at_) (wrap64 (at_ + 1)) lv 0 wr (if lv > 40 then (if dp < 0 then at_ else dp) else dp)) else none)
    else some (at_, (l.length : Int), dp)
def tree_Check.kids (l : List S43) : Nat → S43 → Int → Int → Int → Int → Int → Option (Int × Int × Int)
  | 0, _, _, _, _, _, _ => none
  | k + 1, x, nx, lv, i, wr, dp =>
    if i < x.f1 then (if wr < 0 then
      ((tree_Check.walk l k nx (wrap64 (lv + 1)) (fun op => partB ((formOf x.f0).getD ⟨0, 0, 0, 0⟩).pt i x.f1 op) wr dp).bind fun q => tree_Check.kids l k x q.1 lv (wrap64 (i + 1)) q.2.1 q.2.2)
      else some (nx, wr, dp)) else some (nx, wr, dp)
end
def tree_Check.f (k : Nat) (l0 : List S43) : Option (Int × Int) :=
  if (l0.length : Int) > 2048 then some (0, 2) else
  (tree_Check.walk l0 k 0 1 (fun _ => true) (-1) (-1)).bind fun q =>
    if 0 ≤ q.2.1 then some (q.2.1, 3) else if q.1 < (l0.length : Int) then some (q.1, 3) else if 0 ≤ q.2.2 then some (q.2.2, 2) else some (0, 0)
theorem textOf_mono (k f : Nat) (s : ByteArray) : LeO (textOf k f s) (textOf (k + 1) f s) := by
  unfold textOf
  repeat' first | exact tree_own.mono _ _ | exact LeO.refl _ | refine LeO.ite ?_ ?_
theorem tree_Check.bad_mono (k : Nat) (x : S43) (p : Int → Bool) : LeO (tree_Check.bad k x p) (tree_Check.bad (k + 1) x p) := by
  unfold tree_Check.bad
  cases formOf x.f0 with
  | none => exact LeO.refl _
  | some f => exact LeO.ite (LeO.bind (textOf_mono _ _ _) (fun _ => LeO.refl _)) (LeO.refl _)
theorem tree_Check.both_mono (l : List S43) : ∀ k, (∀ a b p c d, LeO (tree_Check.walk l k a b p c d) (tree_Check.walk l (k + 1) a b p c d)) ∧ (∀ x a b c d e, LeO (tree_Check.kids l k x a b c d e) (tree_Check.kids l (k + 1) x a b c d e))
  | 0 => ⟨fun _ _ _ _ _ r h => by simp [tree_Check.walk] at h, fun _ _ _ _ _ _ r h => by simp [tree_Check.kids] at h⟩
  | k + 1 => by
    obtain ⟨ih1, ih2⟩ := tree_Check.both_mono l k
    refine ⟨fun a b p c d => ?_, fun x a b c d e => ?_⟩
    · rw [tree_Check.walk, tree_Check.walk]
      exact LeO.ite (LeO.ite (LeO.bind (tree_Check.bad_mono _ _ _) (fun _ => LeO.ite (LeO.refl _) (ih2 _ _ _ _ _ _))) (LeO.refl _)) (LeO.refl _)
    · rw [tree_Check.kids, tree_Check.kids]
      exact LeO.ite (LeO.ite (LeO.bind (ih1 _ _ _ _ _) (fun _ => ih2 _ _ _ _ _ _)) (LeO.refl _)) (LeO.refl _)
theorem tree_Check.mono : ∀ l0 k, LeO (tree_Check.f k l0) (tree_Check.f (k + 1) l0) := by
  intro l0 k
  unfold tree_Check.f
  exact LeO.ite (LeO.refl _) (LeO.bind ((tree_Check.both_mono l0 k).1 _ _ _ _ _) (fun _ => LeO.refl _))
def Enters (f : Nat) : Prop := ∀ (args : Array Value) (w : World), Sem.run Try.prog (callFunc f args) w = .ok (.enter f args) w
theorem enters_own : Enters 69 := enters_ Try.func69 (by kernel_rfl) rfl
theorem enters_empty : Enters 72 := enters_ Try.func72 (by kernel_rfl) rfl
theorem enters_short : Enters 75 := enters_ Try.func75 (by kernel_rfl) rfl
theorem enters_params : Enters 70 := enters_ Try.func70 (by kernel_rfl) rfl
theorem enters_nothing : Enters 71 := enters_ Try.func71 (by kernel_rfl) rfl
theorem enters_stmt : Enters 73 := enters_ Try.func73 (by kernel_rfl) rfl
theorem enters_headed : Enters 74 := enters_ Try.func74 (by kernel_rfl) rfl
theorem enters_expr : Enters 76 := enters_ Try.func76 (by kernel_rfl) rfl
theorem enters_block : Enters 77 := enters_ Try.func77 (by kernel_rfl) rfl
theorem enters_one : Enters 53 := enters_ Try.func53 (by kernel_rfl) rfl
theorem enters_two : Enters 54 := enters_ Try.func54 (by kernel_rfl) rfl
theorem enters_walk : Enters 52 := enters_ Try.func52 (by kernel_rfl) rfl
theorem text_enters {k f : Nat} {s : ByteArray} {r : Bool} (h : textOf k f s = some r) : Enters f := by
  unfold textOf at h
  split at h
  · rename_i e; subst e; exact enters_own
  split at h
  · rename_i e; subst e; exact enters_empty
  split at h
  · rename_i e; subst e; exact enters_short
  · cases h
theorem text_calls {k f : Nat} {s : ByteArray} {r : Bool} (w : World) (h : textOf k f s = some r) : Calls Try.prog f #[.string s] w fun e w' => e = .returned (.bool r) ∧ Drawn0 w w' := by
  unfold textOf at h
  split at h
  · rename_i e; subst e; exact tree_own.calls k s r w h
  split at h
  · rename_i e; subst e; exact tree_empty.calls s r w h
  split at h
  · rename_i e; subst e; exact tree_short.calls s r w h
  · cases h
theorem part_enters {f : Nat} {i n op : Int} {r : Bool} (h : partOf f i n op = some r) : Enters f := by
  unfold partOf at h
  split at h
  · rename_i e; subst e; exact enters_params
  split at h
  · rename_i e; subst e; exact enters_nothing
  split at h
  · rename_i e; subst e; exact enters_stmt
  split at h
  · rename_i e; subst e; exact enters_headed
  split at h
  · rename_i e; subst e; exact enters_expr
  split at h
  · rename_i e; subst e; exact enters_block
  · cases h
theorem part_calls {f : Nat} {i n op : Int} {r : Bool} (w : World) (h : partOf f i n op = some r) : Calls Try.prog f #[.int .i64 i, .int .i64 n, .int .u8 op] w fun e w' => e = .returned (.bool r) ∧ Drawn0 w w' := by
  unfold partOf at h
  split at h
  · rename_i e; subst e; exact tree_params.calls i n op r w h
  split at h
  · rename_i e; subst e; exact tree_nothing.calls i n op r w h
  split at h
  · rename_i e; subst e; exact tree_stmt.calls i n op r w h
  split at h
  · rename_i e; subst e; exact tree_headed.calls 9 i n op r w h
  split at h
  · rename_i e; subst e; exact tree_expr.calls 9 i n op r w h
  split at h
  · rename_i e; subst e; exact tree_block.calls i n op r w h
  · cases h
theorem expression_some (op : Int) : ∃ b, tree_Expression.f 9 op = some b := by
  unfold tree_Expression.f
  repeat' first | exact ⟨_, rfl⟩ | (simp only [tree_Expression.j0]; done) | (rw [tree_Expression.j0]) | (rw [tree_Expression.j1]) | split
theorem ite_ex {α : Type} {c : Prop} [Decidable c] {a b : Option α} (ha : ∃ r, a = some r) (hb : ∃ r, b = some r) : ∃ r, (if c then a else b) = some r := by split <;> assumption
theorem part_some {op : Int} {f : Form} (hf : formOf op = some f) (i n q : Int) : partOf f.pt i n q = some (partB f.pt i n q) := by
  have key : ∃ r, partOf f.pt i n q = some r := by
    have hm : f.pt ∈ [70, 71, 73, 74, 76, 77] := by
      have all : ∀ p ∈ formTab 58, p.2.pt ∈ [70, 71, 73, 74, 76, 77] := by decide +kernel
      unfold formOf at hf
      generalize formTab 58 = L at hf all
      induction L with
      | nil => cases hf
      | cons p L ih =>
        obtain ⟨a, g⟩ := p
        simp only [List.lookup] at hf
        split at hf
        · obtain rfl := Option.some.inj hf
          exact all _ List.mem_cons_self
        · exact ih hf (fun p hp => all p (List.mem_cons_of_mem _ hp))
    obtain ⟨b, hb⟩ := expression_some q
    simp only [List.mem_cons, List.not_mem_nil, or_false] at hm
    rcases hm with e | e | e | e | e | e <;> rw [e] <;> simp only [partOf, Nat.reduceEqDiff, if_true, if_false, ↓reduceIte] <;> simp only [tree_params.f, tree_nothing.f, tree_stmt.f, tree_headed.f, tree_expr.f, tree_block.f, tree_Statement.f, hb, Option.bind_some]
    · repeat' first | exact ⟨_, rfl⟩ | refine ite_ex ?_ ?_
    · exact ⟨_, rfl⟩
    · split <;> exact ⟨_, rfl⟩
    · repeat' first | exact ⟨_, rfl⟩ | refine ite_ex ?_ ?_
    · exact ⟨_, rfl⟩
    · exact ⟨_, rfl⟩
  obtain ⟨r, hr⟩ := key
  rw [partB, hr]
  rfl
def chkS (bw bd : Nat) (k : Nat) : Prop := k = bw ∨ k = bd
structure ChkEnv (w0 w : World) (l : List S43) (A : Option Addr) (c bt b bm bw bd bk : Nat) (wr dp : Int) : Prop where
  below : Below w0.heap.size w0 w
  row : Kd.C k43 w0 A l.length l
  cap : l.length ≤ c
  hbt : w.heap[bt]? = some (.cells #[.slice A l.length c] 36 (0, 0))
  hb : w.heap[b]? = some (formMap 58)
  hbm : w.heap[bm]? = some (.cells #[.map (some b)] 68 (0, 0))
  hbw : w.heap[bw]? = some (.cells #[.int .i64 wr] 3 (0, 0))
  hbd : w.heap[bd]? = some (.cells #[.int .i64 dp] 3 (0, 0))
  hbk : w.heap[bk]? = some (.cells #[.func (.func 52) #[] #[.pointer (some ⟨bt, 0, none⟩), .pointer (some ⟨bw, 0, none⟩), .pointer (some ⟨bm, 0, none⟩), .pointer (some ⟨bd, 0, none⟩), .pointer (some ⟨bk, 0, none⟩)]] 70 (0, 0))
  ord : w0.heap.size ≤ bt ∧ bt < b ∧ b < bm ∧ bm < bw ∧ bw < bd ∧ bd < bk
section
variable {w0 w W : World} {l : List S43} {A : Option Addr} {c bt b bm bw bd bk : Nat} {wr dp : Int}
theorem ChkEnv.lt (h : ChkEnv w0 w l A c bt b bm bw bd bk wr dp) : bk < w.heap.size := blk_lt h.hbk
theorem ChkEnv.move (h : ChkEnv w0 w l A c bt b bm bw bd bk wr dp) (hb : Below w.heap.size w W) : ChkEnv w0 W l A c bt b bm bw bd bk wr dp :=
  ⟨below_then h.below h.below.size hb, h.row, h.cap, blk_below h.hbt hb, blk_below h.hb hb, blk_below h.hbm hb, blk_below h.hbw hb, blk_below h.hbd hb, blk_below h.hbk hb, h.ord⟩
theorem ChkEnv.setw (h : ChkEnv w0 w l A c bt b bm bw bd bk wr dp) (x : Int) : ChkEnv w0 (w.setCell ⟨bw, 0, none⟩ (.int .i64 x)) l A c bt b bm bw bd bk x dp := by
  have o := h.ord
  exact ⟨h.below.setCell (by show w0.heap.size ≤ bw; omega) _, h.row, h.cap, obj_far h.hbt (by show bt ≠ bw; omega), obj_far h.hb (by show b ≠ bw; omega), obj_far h.hbm (by show bm ≠ bw; omega), blk_set h.hbw 0 _, obj_far h.hbd (by show bd ≠ bw; omega), obj_far h.hbk (by show bk ≠ bw; omega), o⟩
theorem ChkEnv.setd (h : ChkEnv w0 w l A c bt b bm bw bd bk wr dp) (x : Int) : ChkEnv w0 (w.setCell ⟨bd, 0, none⟩ (.int .i64 x)) l A c bt b bm bw bd bk wr x := by
  have o := h.ord
  exact ⟨h.below.setCell (by show w0.heap.size ≤ bd; omega) _, h.row, h.cap, obj_far h.hbt (by show bt ≠ bd; omega), obj_far h.hb (by show b ≠ bd; omega), obj_far h.hbm (by show bm ≠ bd; omega), obj_far h.hbw (by show bw ≠ bd; omega), blk_set h.hbd 0 _, obj_far h.hbk (by show bk ≠ bd; omega), o⟩
theorem ChkEnv.get (h : ChkEnv w0 w l A c bt b bm bw bd bk wr dp) :
    w.cell? ⟨bt, 0, none⟩ = some (.slice A l.length c) ∧ w.cell? ⟨bm, 0, none⟩ = some (.map (some b)) ∧ w.cell? ⟨bw, 0, none⟩ = some (.int .i64 wr) ∧ w.cell? ⟨bd, 0, none⟩ = some (.int .i64 dp) ∧
    w.cell? ⟨bk, 0, none⟩ = some (.func (.func 52) #[] #[.pointer (some ⟨bt, 0, none⟩), .pointer (some ⟨bw, 0, none⟩), .pointer (some ⟨bm, 0, none⟩), .pointer (some ⟨bd, 0, none⟩), .pointer (some ⟨bk, 0, none⟩)]) ∧
    w.frozen? ⟨bw, 0, none⟩ = false ∧ w.frozen? ⟨bd, 0, none⟩ = false :=
  ⟨(blk_cell h.hbt 0).trans rfl, (blk_cell h.hbm 0).trans rfl, (blk_cell h.hbw 0).trans rfl, (blk_cell h.hbd 0).trans rfl, (blk_cell h.hbk 0).trans rfl, blk_frozen h.hbw 0, blk_frozen h.hbd 0⟩
end
def May (w : World) (bw bd mf : Nat) (mcap : List Value) (p : Int → Bool) : Prop :=
  ∀ W, Kept w W (chkS bw bd) → ∀ op : Int, Calls Try.prog mf (Value.int .u8 op :: mcap).toArray W fun e W' => e = .returned (.bool (p op)) ∧ Drawn0 W W'
theorem may_two (w : World) (bw bd : Nat) : May w bw bd 54 [] (fun _ => true) := by
  intro W _ op
  go_enter Try.func54, Try.ntmps54
  go_wp2
  go_ret
  exact ⟨rfl, Drawn0.refl _⟩
theorem may_one {w : World} {bw bd bf bi bx : Nat} {f : Form} {i : Int} {x : S43} (hf : formOf x.f0 = some f) (hbf : w.heap[bf]? = some (.cells f.cells 73 (0, 0))) (hbi : w.heap[bi]? = some (.cells #[.int .i64 i] 3 (0, 0)))
    (hbx : w.heap[bx]? = some (.cells #[.int .u8 x.f0, .int .i64 x.f1, .int .i64 x.f2, .string x.f3] 43 (0, 0))) (n1 : ¬ chkS bw bd bf) (n2 : ¬ chkS bw bd bi) (n3 : ¬ chkS bw bd bx) :
    May w bw bd 53 [.pointer (some ⟨bf, 0, none⟩), .pointer (some ⟨bi, 0, none⟩), .pointer (some ⟨bx, 0, none⟩)] (fun op => partB ((formOf x.f0).getD ⟨0, 0, 0, 0⟩).pt i x.f1 op) := by
  intro W hk op
  have h1 : W.cell? ⟨bf, 3, none⟩ = some (.func (.func f.pt) #[] #[]) := (blk_cell (blk_kept hbf hk n1) 3).trans rfl
  have h2 : W.cell? ⟨bi, 0, none⟩ = some (.int .i64 i) := (blk_cell (blk_kept hbi hk n2) 0).trans rfl
  have h3 : W.cell? ⟨bx, 1, none⟩ = some (.int .i64 x.f1) := (blk_cell (blk_kept hbx hk n3) 1).trans rfl
  have hp := Aside0.mk (part_some hf i x.f1 op)
  have he : ∀ (args : Array Value) (w : World), Sem.run Try.prog (callFunc f.pt args) w = .ok (.enter f.pt args) w := part_enters hp.out
  have hu := Try.underlying73
  have hu2 := Try.underlying43
  rw [hf]
  show Calls _ _ _ _ fun e W' => e = .returned (.bool (partB f.pt i x.f1 op)) ∧ Drawn0 W W'
  clear hf hbf hbi hbx n1 n2 n3 hk
  go_enter Try.func53, Try.ntmps53
  go_wp2_with (first | ((with_reducible refine (part_calls _ hp.out).mono ?_); rintro e w' ⟨rfl, ⟨nd, rfl⟩⟩))
  go_ret
  exact ⟨rfl, ⟨_, rfl⟩⟩
theorem form_find (op : Int) : ∀ (L : List (Int × Form)) (i : Nat),
    (L.lookup op = none → findNow (.int .u8) (.int .u8 op) (formEnt i L) i = some none) ∧ (∀ f, L.lookup op = some f → ∃ j, findNow (.int .u8) (.int .u8 op) (formEnt i L) i = some (some (j, .agg f.cells)))
  | [], i => ⟨fun _ => rfl, fun f h => (by cases h)⟩
  | (a, g) :: L, i => by
    have ih := form_find op L (i + 1)
    simp only [List.lookup, formEnt, findNow, sameNow]
    cases h : op == a with
    | true => exact ⟨fun h => (by cases h), fun f hf => ⟨i, (by obtain rfl := Option.some.inj hf; simp)⟩⟩
    | false => simpa using ih
theorem form_not {op : Int} (h : formOf op = none) : findNow (.int .u8) (.int .u8 op) (formEnt 0 (formTab 58)).toArray.toList 0 = some none := (form_find op _ 0).1 h
theorem form_has {op : Int} {f : Form} (h : formOf op = some f) : ∃ j, findNow (.int .u8) (.int .u8 op) (formEnt 0 (formTab 58)).toArray.toList 0 = some (some (j, .agg f.cells)) := (form_find op _ 0).2 f h
theorem Below.chk {w W : World} {bw bd : Nat} (h : Below w.heap.size w W) : Kept w W (chkS bw bd) := Kept.of_below h _
theorem may_at {w : World} {bw bd mf : Nat} {mcap : List Value} {p : Int → Bool} (h : May w bw bd mf mcap p) {W : World} (hk : Kept w W (chkS bw bd)) (op : Int) : Calls Try.prog mf (Value.int .u8 op :: mcap).toArray W fun e W' => e = .returned (.bool (p op)) ∧ Drawn0 W W' := h W hk op
theorem mk_run (P : Program) (fn : Fn) (first cap : Array Value) (w : World) : (Instr.makeFunc fn first cap).run P w = .ok (.func fn first cap) w := rfl
theorem mk_events (P : Program) (fn : Fn) (first cap : Array Value) (w : World) (es : Array Event) : (Instr.makeFunc fn first cap).events P w es = es := rfl
end Go.Proofs.Ytlbchdalimngjaa.P
namespace Go.Proofs.Ytlbchdalimngjaa.P
open Go.RowKit Go.Proofs.YtlbchdalimngjaaW.PrintWords Go.Proofs.YtlbchdalimngjaaW.PrintLast Go.Proofs.YtlbchdalimngjaaW.PrintMore
open Go.Instr
attribute [local go_sem] mk_run mk_events max2_int min2_int max_two min_two max_three min_three max_four min_four
set_option linter.unusedVariables false
set_option linter.unusedSimpArgs false
theorem far_get {w5 : World} {bw bd : Nat} {ty : TypeId} {u : Value} (h : w5.heap[bd]? = some (.cells #[u] ty (0, 0))) (hn : bd ≠ bw) :
    (w5.setCell ⟨bw, 0, none⟩ (.int .i64 (-1))).cell? ⟨bd, 0, none⟩ = some u ∧ (w5.setCell ⟨bw, 0, none⟩ (.int .i64 (-1))).frozen? ⟨bd, 0, none⟩ = false :=
  ⟨(blk_cell (obj_far h hn) 0).trans rfl, blk_frozen (obj_far h hn) 0⟩
set_option maxHeartbeats 8000000 in
set_option maxRecDepth 100000 in
theorem chk_walk {w0 : World} {l : List S43} {A : Option Addr} {c bt b bm bw bd bk : Nat} (hl : l.length ≤ 2048) : ∀ (k : Nat) (at_ lv : Int) (mf : Nat) (mcap : List Value) (p : Int → Bool) (wg dp r1 r2 r3 : Int) (w : World),
    ChkEnv w0 w l A c bt b bm bw bd bk wg dp → Enters mf → May w bw bd mf mcap p → tree_Check.walk l k at_ lv p wg dp = some (r1, r2, r3) →
    Calls Try.prog 52 #[.int .i64 at_, .int .i64 lv, .func (.func mf) #[] mcap.toArray, .pointer (some ⟨bt, 0, none⟩), .pointer (some ⟨bw, 0, none⟩), .pointer (some ⟨bm, 0, none⟩), .pointer (some ⟨bd, 0, none⟩), .pointer (some ⟨bk, 0, none⟩)] w
      fun e w' => e = .returned (.int .i64 r1) ∧ ChkEnv w0 w' l A c bt b bm bw bd bk r2 r3 ∧ Kept w w' (chkS bw bd) := by
  intro k
  induction k using Nat.strongRecOn with
  | _ k ih0 =>
  have IH := Aside0.mk ih0
  clear ih0
  intro at_ lv mf mcap p wg dp r1 r2 r3 w henv hent hmay h
  have hu43 := Try.underlying43
  have hu73 := Try.underlying73
  have hum := Try.underlying68
  have huk := Try.underlying5
  have HL := Aside0.mk hl
  clear hl
  cases k with
  | zero => exact absurd h (by simp [tree_Check.walk])
  | succ k =>
  have HE := Aside0.mk henv
  have MAY := Aside0.mk hmay
  have hent' : ∀ (args : Array Value) (w : World), Sem.run Try.prog (callFunc mf args) w = .ok (.enter mf args) w := hent
  clear henv hmay hent
  rw [tree_Check.walk] at h
  obtain ⟨hct, hcm, hcw, hcd, hck, hfw, hfd⟩ := HE.out.get
  by_cases c1 : at_ < (l.length : Int)
  · rw [if_pos c1] at h
    have c1b : decide ((l.length : Int) ≤ at_) = false := decide_eq_false (by omega)
    have C1 := Aside0.mk c1
    clear c1
    by_cases c0 : 0 ≤ at_
    · rw [if_pos c0] at h
      have p0 := eq_true c0
      have q0 := eq_true C1.out
      obtain ⟨ad, hA, hcz0, hcz1, hcz2, hcz3⟩ := at_T43 (Kd.C_below HE.out.row HE.out.below) at_ c0 C1.out
      cases hA
      have HH := Aside0.mk h
      clear h
      have C0 := Aside0.mk c0
      clear c0
      go_enter Try.func52, Try.ntmps52
      go_upto_region 5 with (first | ((with_reducible refine gate_dst (N := 12) rfl ?_); refine box_event ?hg (N := 12) ?hd (cs := #[.int .u8 0, .int .i64 0, .int .i64 0, .string (⟨#[]⟩ : ByteArray)]) (t := 43) ?hr ?_; (case hd => rfl); (case hg => rfl); (case hr => first | (go_simp; done) | (go_simp; rfl)); intro bx hg w1 hbox hb; have hcb0 : w1.cell? ⟨bx, 0, none⟩ = some (.int .u8 0) := (blk_cell hbox 0).trans rfl; have hcb1 : w1.cell? ⟨bx, 1, none⟩ = some (.int .i64 0) := (blk_cell hbox 1).trans rfl; have hcb2 : w1.cell? ⟨bx, 2, none⟩ = some (.int .i64 0) := (blk_cell hbox 2).trans rfl; have hcb3 : w1.cell? ⟨bx, 3, none⟩ = some (.string (⟨#[]⟩ : ByteArray)) := (blk_cell hbox 3).trans rfl; have hfb0 := blk_frozen hbox 0; have hfb1 := blk_frozen hbox 1; have hfb2 := blk_frozen hbox 2; have hfb3 := blk_frozen hbox 3; have BX := Aside0.mk hbox; have BB := Aside0.mk hb; have GX := Aside0.mk hg; clear hbox hb hg))
      obtain ⟨x, hx⟩ : ∃ x, x = rd_T43 l at_ := ⟨_, rfl⟩
      rw [← hx] at HH ⊢
      obtain ⟨w2, hw2⟩ : ∃ w2 : World, w2 = (((w1.setCell ⟨bx, 0, none⟩ (.int .u8 x.f0)).setCell ⟨bx, 1, none⟩ (.int .i64 x.f1)).setCell ⟨bx, 2, none⟩ (.int .i64 x.f2)).setCell ⟨bx, 3, none⟩ (.string x.f3) := ⟨_, rfl⟩
      have hgx : w.heap.size ≤ bx := by rw [GX.out]; exact Nat.le_refl _
      have BB2 : Below w.heap.size w w2 := by rw [hw2]; exact below_set (below_set (below_set (below_set BB.out hgx) hgx) hgx) hgx
      have BX2 : w2.heap[bx]? = some (.cells #[.int .u8 x.f0, .int .i64 x.f1, .int .i64 x.f2, .string x.f3] 43 (0, 0)) := by rw [hw2]; exact blk_set (blk_set (blk_set (blk_set BX.out 0 _) 1 _) 2 _) 3 _
      rw [← hw2]
      have HE2 := Aside0.mk (HE.out.move BB2)
      have KP := Aside0.mk (Below.chk (bw := bw) (bd := bd) BB2)
      clear hw2 hcb0 hcb1 hcb2 hcb3 hfb0 hfb1 hfb2 hfb3 BX BB w1 hcz0 hcz1 hcz2 hcz3 hct hcm hcw hcd hck hfw hfd
      have OBX := Aside0.mk (show bk < bx by rw [GX.out]; exact HE.out.lt)
      have NBX := Aside0.mk (show ¬ chkS bw bd bx by have := HE.out.ord; have := OBX.out; unfold chkS; omega)
      clear HE hx BB2 c1b
      have HE := HE2
      clear HE2
      have BX := Aside0.mk BX2
      clear BX2
      obtain ⟨hct, hcm, hcw, hcd, hck, hfw, hfd⟩ := HE.out.get
      have hcx0 : w2.cell? ⟨bx, 0, none⟩ = some (.int .u8 x.f0) := (blk_cell BX.out 0).trans rfl
      have hcx1 : w2.cell? ⟨bx, 1, none⟩ = some (.int .i64 x.f1) := (blk_cell BX.out 1).trans rfl
      have hcx2 : w2.cell? ⟨bx, 2, none⟩ = some (.int .i64 x.f2) := (blk_cell BX.out 2).trans rfl
      have hcx3 : w2.cell? ⟨bx, 3, none⟩ = some (.string x.f3) := (blk_cell BX.out 3).trans rfl
      cases hform : formOf x.f0 with
      | none =>
        have H := HH.out
        clear HH
        rw [tree_Check.bad, hform] at H
        simp only [Option.bind_some, if_true, Option.some.injEq, Prod.mk.injEq] at H
        obtain ⟨rfl, rfl, rfl⟩ := H
        have HF := Aside0.mk (form_not hform)
        clear hform
        go_upto_region 6 with (first | ((with_reducible refine gate_lookup rfl ?_); refine map_not rfl _ _ rfl hum huk rfl rfl HE.out.hb _ (form_zero _) HF.out ?_) | ((with_reducible refine gate_dst (N := 13) rfl ?_); refine box_event ?hg (N := 13) ?hd (cs := #[.nilFunc, .int .i64 0, .int .i64 0, .nilFunc]) (t := 73) ?hr ?_; (case hd => rfl); (case hg => rfl); (case hr => first | (go_simp; done) | (go_simp; rfl)); intro bf hg w1 hbox hb; have hce0 : w1.cell? ⟨bf, 0, none⟩ = some .nilFunc := (blk_cell hbox 0).trans rfl; have hce1 : w1.cell? ⟨bf, 1, none⟩ = some (.int .i64 0) := (blk_cell hbox 1).trans rfl; have hce2 : w1.cell? ⟨bf, 2, none⟩ = some (.int .i64 0) := (blk_cell hbox 2).trans rfl; have hce3 : w1.cell? ⟨bf, 3, none⟩ = some .nilFunc := (blk_cell hbox 3).trans rfl; have hfe0 := blk_frozen hbox 0; have hfe1 := blk_frozen hbox 1; have hfe2 := blk_frozen hbox 2; have hfe3 := blk_frozen hbox 3; have BF := Aside0.mk hbox; have BB := Aside0.mk hb; have GF := Aside0.mk hg; clear hbox hb hg))
        obtain ⟨w3, hw3⟩ : ∃ w3 : World, w3 = (((w1.setCell ⟨bf, 0, none⟩ (.nilFunc)).setCell ⟨bf, 1, none⟩ (.int .i64 0)).setCell ⟨bf, 2, none⟩ (.int .i64 0)).setCell ⟨bf, 3, none⟩ (.nilFunc) := ⟨_, rfl⟩
        have hgf : w2.heap.size ≤ bf := by rw [GF.out]; exact Nat.le_refl _
        have BB3 : Below w2.heap.size w2 w3 := by rw [hw3]; exact below_set (below_set (below_set (below_set BB.out hgf) hgf) hgf) hgf
        have BF3 : w3.heap[bf]? = some (.cells #[.nilFunc, .int .i64 0, .int .i64 0, .nilFunc] 73 (0, 0)) := by rw [hw3]; exact blk_set (blk_set (blk_set (blk_set BF.out 0 _) 1 _) 2 _) 3 _
        rw [← hw3]
        have HE3 := Aside0.mk (HE.out.move BB3)
        have KP3 := Aside0.mk (KP.out.below BB3)
        have BX3 := Aside0.mk (blk_below BX.out BB3)
        have OBF := Aside0.mk (show bx < bf by rw [GF.out]; exact blk_lt BX.out)
        have NBF := Aside0.mk (show ¬ chkS bw bd bf by have := HE.out.ord; have := OBX.out; have := OBF.out; unfold chkS; omega)
        clear hw3 hce0 hce1 hce2 hce3 hfe0 hfe1 hfe2 hfe3 BF BB w1 hcx0 hcx1 hcx2 hcx3 hct hcm hcw hcd hck hfw hfd HE KP BX hgf BB3 GF
        have HE := HE3
        have KP := KP3
        have BX := BX3
        have BF := Aside0.mk BF3
        clear HE3 KP3 BX3 BF3
        obtain ⟨hct, hcm, hcw, hcd, hck, hfw, hfd⟩ := HE.out.get
        have hcx0 : w3.cell? ⟨bx, 0, none⟩ = some (.int .u8 x.f0) := (blk_cell BX.out 0).trans rfl
        have hcx1 : w3.cell? ⟨bx, 1, none⟩ = some (.int .i64 x.f1) := (blk_cell BX.out 1).trans rfl
        have hcx2 : w3.cell? ⟨bx, 2, none⟩ = some (.int .i64 x.f2) := (blk_cell BX.out 2).trans rfl
        have hcx3 : w3.cell? ⟨bx, 3, none⟩ = some (.string x.f3) := (blk_cell BX.out 3).trans rfl
        go_wp2
        go_ret
        exact ⟨rfl, HE.out.setw _, KP.out.setCell (.inl (.inl rfl)) _⟩
      | some f =>
        obtain ⟨fj, hfind⟩ := form_has hform
        have HF := Aside0.mk hfind
        clear hfind
        have HFORM := Aside0.mk hform
        have H := HH.out
        clear HH
        rw [tree_Check.bad, hform] at H
        clear hform
        have HH := Aside0.mk H
        clear H
        go_upto_region 6 with (first | ((with_reducible refine gate_lookup rfl ?_); refine map_has rfl _ _ rfl hum huk rfl rfl HE.out.hb fj (.agg #[.func (.func f.tx) #[] #[], .int .i64 f.le, .int .i64 f.mo, .func (.func f.pt) #[] #[]]) HF.out ?_) | ((with_reducible refine gate_dst (N := 13) rfl ?_); refine box_event ?hg (N := 13) ?hd (cs := #[.nilFunc, .int .i64 0, .int .i64 0, .nilFunc]) (t := 73) ?hr ?_; (case hd => rfl); (case hg => rfl); (case hr => first | (go_simp; done) | (go_simp; rfl)); intro bf hg w1 hbox hb; have hce0 : w1.cell? ⟨bf, 0, none⟩ = some .nilFunc := (blk_cell hbox 0).trans rfl; have hce1 : w1.cell? ⟨bf, 1, none⟩ = some (.int .i64 0) := (blk_cell hbox 1).trans rfl; have hce2 : w1.cell? ⟨bf, 2, none⟩ = some (.int .i64 0) := (blk_cell hbox 2).trans rfl; have hce3 : w1.cell? ⟨bf, 3, none⟩ = some .nilFunc := (blk_cell hbox 3).trans rfl; have hfe0 := blk_frozen hbox 0; have hfe1 := blk_frozen hbox 1; have hfe2 := blk_frozen hbox 2; have hfe3 := blk_frozen hbox 3; have BF := Aside0.mk hbox; have BB := Aside0.mk hb; have GF := Aside0.mk hg; clear hbox hb hg))
        obtain ⟨w3, hw3⟩ : ∃ w3 : World, w3 = (((w1.setCell ⟨bf, 0, none⟩ (.func (.func f.tx) #[] #[])).setCell ⟨bf, 1, none⟩ (.int .i64 f.le)).setCell ⟨bf, 2, none⟩ (.int .i64 f.mo)).setCell ⟨bf, 3, none⟩ (.func (.func f.pt) #[] #[]) := ⟨_, rfl⟩
        have hgf : w2.heap.size ≤ bf := by rw [GF.out]; exact Nat.le_refl _
        have BB3 : Below w2.heap.size w2 w3 := by rw [hw3]; exact below_set (below_set (below_set (below_set BB.out hgf) hgf) hgf) hgf
        have BF3 : w3.heap[bf]? = some (.cells #[.func (.func f.tx) #[] #[], .int .i64 f.le, .int .i64 f.mo, .func (.func f.pt) #[] #[]] 73 (0, 0)) := by rw [hw3]; exact blk_set (blk_set (blk_set (blk_set BF.out 0 _) 1 _) 2 _) 3 _
        rw [← hw3]
        have HE3 := Aside0.mk (HE.out.move BB3)
        have KP3 := Aside0.mk (KP.out.below BB3)
        have BX3 := Aside0.mk (blk_below BX.out BB3)
        have OBF := Aside0.mk (show bx < bf by rw [GF.out]; exact blk_lt BX.out)
        have NBF := Aside0.mk (show ¬ chkS bw bd bf by have := HE.out.ord; have := OBX.out; have := OBF.out; unfold chkS; omega)
        clear hw3 hce0 hce1 hce2 hce3 hfe0 hfe1 hfe2 hfe3 BF BB w1 hcx0 hcx1 hcx2 hcx3 hct hcm hcw hcd hck hfw hfd HE KP BX hgf BB3 GF
        have HE := HE3
        have KP := KP3
        have BX := BX3
        have BF := Aside0.mk BF3
        clear HE3 KP3 BX3 BF3
        obtain ⟨hct, hcm, hcw, hcd, hck, hfw, hfd⟩ := HE.out.get
        have hcx0 : w3.cell? ⟨bx, 0, none⟩ = some (.int .u8 x.f0) := (blk_cell BX.out 0).trans rfl
        have hcx1 : w3.cell? ⟨bx, 1, none⟩ = some (.int .i64 x.f1) := (blk_cell BX.out 1).trans rfl
        have hcx2 : w3.cell? ⟨bx, 2, none⟩ = some (.int .i64 x.f2) := (blk_cell BX.out 2).trans rfl
        have hcx3 : w3.cell? ⟨bx, 3, none⟩ = some (.string x.f3) := (blk_cell BX.out 3).trans rfl
        have hcf0 : w3.cell? ⟨bf, 0, none⟩ = some (.func (.func f.tx) #[] #[]) := (blk_cell BF.out 0).trans rfl
        have hcf1 : w3.cell? ⟨bf, 1, none⟩ = some (.int .i64 f.le) := (blk_cell BF.out 1).trans rfl
        have hcf2 : w3.cell? ⟨bf, 2, none⟩ = some (.int .i64 f.mo) := (blk_cell BF.out 2).trans rfl
        have H := HH.out
        clear HH
        dsimp only at H
        obtain ⟨bv, H1, H⟩ := Option.bind_eq_some_iff.mp H
        have HB1 := Aside0.mk H1
        have HH := Aside0.mk H
        clear H H1
        go_cut [80] (fun v80 wc => v80 = .bool bv ∧ ∃ n, wc = w3.drewN n)
        case first =>
          have H1 := HB1.out
          clear HB1 HH
          by_cases hp : p x.f0 = true
          · rw [if_pos hp] at H1
            obtain ⟨t, HT, H1⟩ := Option.bind_eq_some_iff.mp H1
            have hentT : ∀ (args : Array Value) (w : World), Sem.run Try.prog (callFunc f.tx args) w = .ok (.enter f.tx args) w := text_enters HT
            have HT := Aside0.mk HT
            cases t with
            | false =>
              simp only [Bool.false_eq_true, if_false, Option.some.injEq] at H1
              obtain rfl := H1
              go_wp2_with (first | ((with_reducible refine (text_calls _ HT.out).mono ?_); rintro e w' ⟨rfl, ⟨nd2, rfl⟩⟩) | ((with_reducible refine (may_at MAY.out ?kp _).mono ?_); (case kp => exact KP.out); rintro e w' ⟨rfl, ⟨nd, rfl⟩⟩))
              go_meet
              case rel => exact ⟨by first | rfl | (simp; done) | (simp [*]; done), ⟨_, by first | rfl | exact (World.drewN_drewN _ _ _)⟩⟩
            | true =>
              rw [if_pos rfl] at H1
              by_cases cA : x.f1 < f.le
              · rw [if_pos cA] at H1
                obtain rfl := Option.some.inj H1
                clear H1
                have cAb : decide (x.f1 < f.le) = true := decide_eq_true cA
                clear cA
                go_wp2_with (first | ((with_reducible refine (text_calls _ HT.out).mono ?_); rintro e w' ⟨rfl, ⟨nd2, rfl⟩⟩) | ((with_reducible refine (may_at MAY.out ?kp _).mono ?_); (case kp => exact KP.out); rintro e w' ⟨rfl, ⟨nd, rfl⟩⟩))
                go_meet
                case rel => exact ⟨by first | rfl | (simp; done) | (simp [*]; done), ⟨_, by first | rfl | exact (World.drewN_drewN _ _ _)⟩⟩
              rw [if_neg cA] at H1
              have cAb : decide (x.f1 < f.le) = false := decide_eq_false cA
              clear cA
              by_cases cB : x.f1 > f.mo
              · rw [if_pos cB] at H1
                obtain rfl := Option.some.inj H1
                clear H1
                have cBb : decide (f.mo < x.f1) = true := decide_eq_true cB
                clear cB
                go_wp2_with (first | ((with_reducible refine (text_calls _ HT.out).mono ?_); rintro e w' ⟨rfl, ⟨nd2, rfl⟩⟩) | ((with_reducible refine (may_at MAY.out ?kp _).mono ?_); (case kp => exact KP.out); rintro e w' ⟨rfl, ⟨nd, rfl⟩⟩))
                go_meet
                case rel => exact ⟨by first | rfl | (simp; done) | (simp [*]; done), ⟨_, by first | rfl | exact (World.drewN_drewN _ _ _)⟩⟩
              rw [if_neg cB] at H1
              have cBb : decide (f.mo < x.f1) = false := decide_eq_false cB
              clear cB
              by_cases cC : x.f0 = 23
              · rw [if_pos cC] at H1
                have cCb : (x.f0 != 23) = false := bne_eq_false_iff_eq.mpr cC
                have cCc : (x.f0 == 23) = true := beq_iff_eq.mpr cC
                clear cC
                obtain rfl := Option.some.inj H1
                clear H1
                go_wp2_with (first | ((with_reducible refine (text_calls _ HT.out).mono ?_); rintro e w' ⟨rfl, ⟨nd2, rfl⟩⟩) | ((with_reducible refine (may_at MAY.out ?kp _).mono ?_); (case kp => exact KP.out); rintro e w' ⟨rfl, ⟨nd, rfl⟩⟩))
                go_meet
                case rel => exact ⟨by first | rfl | (simp; done) | (simp [*]; done), ⟨_, by first | rfl | exact (World.drewN_drewN _ _ _)⟩⟩
              · rw [if_neg cC] at H1
                have cCb : (x.f0 != 23) = true := bne_iff_ne.mpr cC
                have cCc : (x.f0 == 23) = false := beq_eq_false_iff_ne.mpr cC
                clear cC
                by_cases cD : x.f2 = 0
                · rw [if_pos cD] at H1
                  obtain rfl := Option.some.inj H1
                  clear H1
                  have cDb : (x.f2 != 0) = false := bne_eq_false_iff_eq.mpr cD
                  have cDc : (x.f2 == 0) = true := beq_iff_eq.mpr cD
                  have cDd : decide (x.f2 < 0) = false := decide_eq_false (by omega)
                  clear cD
                  go_wp2_with (first | ((with_reducible refine (text_calls _ HT.out).mono ?_); rintro e w' ⟨rfl, ⟨nd2, rfl⟩⟩) | ((with_reducible refine (may_at MAY.out ?kp _).mono ?_); (case kp => exact KP.out); rintro e w' ⟨rfl, ⟨nd, rfl⟩⟩))
                  go_meet
                  case rel => exact ⟨by first | rfl | (simp; done) | (simp [*]; done), ⟨_, by first | rfl | exact (World.drewN_drewN _ _ _)⟩⟩
                · rw [if_neg cD] at H1
                  obtain rfl := Option.some.inj H1
                  clear H1
                  have cDb : (x.f2 != 0) = true := bne_iff_ne.mpr cD
                  have cDc : (x.f2 == 0) = false := beq_eq_false_iff_ne.mpr cD
                  clear cD
                  go_wp2_with (first | ((with_reducible refine (text_calls _ HT.out).mono ?_); rintro e w' ⟨rfl, ⟨nd2, rfl⟩⟩) | ((with_reducible refine (may_at MAY.out ?kp _).mono ?_); (case kp => exact KP.out); rintro e w' ⟨rfl, ⟨nd, rfl⟩⟩))
                  go_meet
                  case rel => exact ⟨by first | rfl | (simp; done) | (simp [*]; done), ⟨_, by first | rfl | exact (World.drewN_drewN _ _ _)⟩⟩
          · rw [if_neg hp] at H1
            have hp2 : p x.f0 = false := Bool.eq_false_iff.mpr hp
            clear hp
            obtain rfl := Option.some.inj H1
            clear H1
            go_wp2_with (first | ((with_reducible refine (text_calls _ HT.out).mono ?_); rintro e w' ⟨rfl, ⟨nd2, rfl⟩⟩) | ((with_reducible refine (may_at MAY.out ?kp _).mono ?_); (case kp => exact KP.out); rintro e w' ⟨rfl, ⟨nd, rfl⟩⟩))
            go_meet
            case rel => exact ⟨by first | rfl | (simp; done) | (simp [*]; done), ⟨_, by first | rfl | exact (World.drewN_drewN _ _ _)⟩⟩
        case rest =>
          obtain ⟨rfl, n, rfl⟩ := hcut
          have H := HH.out
          clear HH HB1
          cases bv with
          | true =>
            simp only [if_true, Option.some.injEq, Prod.mk.injEq] at H
            obtain ⟨rfl, rfl, rfl⟩ := H
            go_wp2
            go_ret
            exact ⟨rfl, (HE.out.move (pw_below_drewN (Below.refl _ _) n)).setw _, (KP.out.drewN n).setCell (.inl (.inl rfl)) _⟩
          | false =>
            simp only [Bool.false_eq_true, if_false] at H
            obtain ⟨w4, hw4⟩ : ∃ w4 : World, w4 = w3.drewN n := ⟨_, rfl⟩
            have BB4 : Below w3.heap.size w3 w4 := by rw [hw4]; exact pw_below_drewN (Below.refl _ _) n
            rw [← hw4]
            have HE4 := Aside0.mk (HE.out.move BB4)
            have KP4 := Aside0.mk (KP.out.below BB4)
            have BX4 := Aside0.mk (blk_below BX.out BB4)
            have BF4 := Aside0.mk (blk_below BF.out BB4)
            clear hw4 BB4 HE KP BX BF hcf0 hcf1 hcf2 hcx0 hcx1 hcx2 hcx3 hct hcm hcw hcd hck hfw hfd
            obtain ⟨hct, hcm, hcw, hcd, hck, hfw, hfd⟩ := HE4.out.get
            have HH := Aside0.mk H
            clear H
            go_upto_region 9 with (fail)
            go_cut [88] (fun v88 wc => v88 = .bool (decide (40 < lv) && decide (dp < 0)) ∧ w4 = wc)
            case first =>
              by_cases cL : 40 < lv
              · have cLb : decide (40 < lv) = true := decide_eq_true cL
                clear cL
                by_cases cD : dp < 0
                · have cDb : decide (dp < 0) = true := decide_eq_true cD
                  clear cD
                  go_wp2
                  go_meet
                  case rel => exact ⟨by first | rfl | (simp; done) | (simp [*]; done), rfl⟩
                · have cDb : decide (dp < 0) = false := decide_eq_false cD
                  clear cD
                  go_wp2
                  go_meet
                  case rel => exact ⟨by first | rfl | (simp; done) | (simp [*]; done), rfl⟩
              · have cLb : decide (40 < lv) = false := decide_eq_false cL
                clear cL
                go_wp2
                go_meet
                case rel => exact ⟨by first | rfl | (simp; done) | (simp [*]; done), rfl⟩
            case rest =>
            obtain ⟨rfl, rfl⟩ := hcut
            obtain ⟨dq, hdq⟩ : ∃ dq : Int, dq = if lv > 40 then if dp < 0 then at_ else dp else dp := ⟨_, rfl⟩
            rw [← hdq] at HH
            have hbl : dq = if (decide (40 < lv) && decide (dp < 0)) = true then at_ else dp := by
              rw [hdq]
              by_cases cL : 40 < lv <;> by_cases cD : dp < 0 <;> simp [cL, cD]
            clear hdq
            revert hbl
            generalize (decide (40 < lv) && decide (dp < 0)) = bl
            intro hbl
            have HBL := Aside0.mk hbl
            clear hbl
            go_upto_if 88 with (fail)
            go_cut [] (fun wc => ChkEnv w0 wc l (some ad) c bt b bm bw bd bk wg dq ∧ Kept w4 wc (chkS bw bd))
            case first =>
              cases bl with
              | true =>
                have hq := HBL.out
                rw [if_pos rfl] at hq
                subst hq
                go_wp2
                go_meet
                case rel => exact ⟨HE4.out.setd _, (Kept.refl _ _).setCell (.inl (.inr rfl)) _⟩
              | false =>
                have hq := HBL.out
                rw [if_neg Bool.false_ne_true] at hq
                subst hq
                go_wp2
                go_meet
                case rel => exact ⟨HE4.out, Kept.refl _ _⟩
            case rest =>
            have HE := Aside0.mk hcut.1
            have HK := Aside0.mk hcut.2
            clear hcut
            have KP := Aside0.mk (KP4.out.then_ HK.out (fun _ h => .inl h))
            have BX := Aside0.mk (blk_kept BX4.out HK.out NBX.out)
            have BF := Aside0.mk (blk_kept BF4.out HK.out NBF.out)
            clear HE4 KP4 BX4 BF4 HK hct hcm hcw hcd hck hfw hfd HBL
            obtain ⟨hct, hcm, hcw, hcd, hck, hfw, hfd⟩ := HE.out.get
            go_upto_region 12 with (fail)
            have X1 : Aside0 True := ⟨trivial⟩
            go_upto_block 0 with ((with_reducible refine gate_dst (N := 16) rfl ?_); refine box_event ?hg (N := 16) ?hd (cs := #[.int .i64 0]) (t := 3) ?hr ?_; (case hd => rfl); (case hg => rfl); (case hr => first | (go_simp; done) | (go_simp; rfl)); intro bi hg w1 hbox hb; have hce0 : w1.cell? ⟨bi, 0, none⟩ = some (.int .i64 0) := (blk_cell hbox 0).trans rfl; have hfe0 := blk_frozen hbox 0; have BI := Aside0.mk hbox; have BB := Aside0.mk hb; have GI := Aside0.mk hg; clear hbox hb hg)
            obtain ⟨w5, hw5⟩ : ∃ w5 : World, w5 = w1.setCell ⟨bi, 0, none⟩ (.int .i64 0) := ⟨_, rfl⟩
            rw [← hw5]
            have hgi : wc.heap.size ≤ bi := by rw [GI.out]; exact Nat.le_refl _
            have BB5 : Below wc.heap.size wc w5 := by rw [hw5]; exact below_set BB.out hgi
            have BI5 : w5.heap[bi]? = some (.cells #[.int .i64 0] 3 (0, 0)) := by rw [hw5]; exact blk_set BI.out 0 _
            have HE5 := Aside0.mk (HE.out.move BB5)
            have KP5 := Aside0.mk (KP.out.below BB5)
            have BX5 := Aside0.mk (blk_below BX.out BB5)
            have BF5 := Aside0.mk (blk_below BF.out BB5)
            have OBI := Aside0.mk (show bf < bi by have := blk_lt BF.out; omega)
            have LBI := Aside0.mk (show w.heap.size ≤ bi by have := KP.out.1; omega)
            have BI6 := Aside0.mk BI5
            clear hw5 hce0 hfe0 BI BB w1 HE KP BX BF hgi BB5 BI5 GI hct hcm hcw hcd hck hfw hfd X1
            go_wp2
            go_loopg [15, 16] k (fun kq v15 v16 wq => ∃ (nx i wg' dp' : Int) (bi : Nat), v15 = .int .i64 nx ∧ v16 = .pointer (some ⟨bi, 0, none⟩) ∧ Aside0 (tree_Check.kids l kq x nx lv i wg' dp' = some (r1, r2, r3)) ∧ Aside0 (kq ≤ k) ∧ Aside0 (ChkEnv w0 wq l (some ad) c bt b bm bw bd bk wg' dp') ∧ Aside0 (Kept w wq (chkS bw bd)) ∧ Aside0 (wq.heap[bi]? = some (.cells #[.int .i64 i] 3 (0, 0))) ∧ Aside0 (bf < bi) ∧ Aside0 (w.heap.size ≤ bi) ∧ Aside0 (wq.heap[bx]? = some (.cells #[.int .u8 x.f0, .int .i64 x.f1, .int .i64 x.f2, .string x.f3] 43 (0, 0))) ∧ Aside0 (wq.heap[bf]? = some (.cells #[.func (.func f.tx) #[] #[], .int .i64 f.le, .int .i64 f.mo, .func (.func f.pt) #[] #[]] 73 (0, 0))))
            case atStart => exact ⟨_, _, _, _, bi, rfl, rfl, HH, ⟨Nat.le_refl _⟩, HE5, KP5, BI6, OBI, LBI, BX5, BF5⟩
            case round =>
              clear HH HE5 KP5 BI6 OBI LBI BX5 BF5
              clear bi w5
              obtain ⟨nx, i, wg', dp', bi, rfl, rfl, HH, HKQ, HE, KP, BI, OBI, LBI, BX, BF⟩ := hrel
              cases gk with
              | zero => exact absurd HH.out (by simp [tree_Check.kids])
              | succ kq =>
                have H := HH.out
                clear HH
                rw [tree_Check.kids] at H
                obtain ⟨hct, hcm, hcw, hcd, hck, hfw, hfd⟩ := HE.out.get
                have hcx1 : wr.cell? ⟨bx, 1, none⟩ = some (.int .i64 x.f1) := (blk_cell BX.out 1).trans rfl
                have hci : wr.cell? ⟨bi, 0, none⟩ = some (.int .i64 i) := (blk_cell BI.out 0).trans rfl
                by_cases ci : i < x.f1
                · rw [if_pos ci] at H
                  have cib : decide (i < x.f1) = true := decide_eq_true ci
                  clear ci
                  by_cases cw : wg' < 0
                  · rw [if_pos cw] at H
                    have cwb : decide (wg' < 0) = true := decide_eq_true cw
                    clear cw
                    obtain ⟨⟨q1, q2, q3⟩, HW, H⟩ := Option.bind_eq_some_iff.mp H
                    have NBI := Aside0.mk (show ¬ chkS bw bd bi by have := HE.out.ord; have := OBX.out; have := OBF.out; have := OBI.out; unfold chkS; omega)
                    have CALL := Aside0.mk (IH.out kq (by have := HKQ.out; omega) _ _ _ _ _ _ _ _ _ _ wr HE.out enters_one (may_one HFORM.out BF.out BI.out BX.out NBF.out NBI.out NBX.out) HW)
                    have HH := Aside0.mk H
                    clear H HW
                    have hent2 : ∀ (args : Array Value) (w : World), Sem.run Try.prog (callFunc 52 args) w = .ok (.enter 52 args) w := enters_walk
                    go_upto_region 16 with ((with_reducible refine CALL.out.mono ?_); rintro e wn ⟨rfl, HE2, KP2⟩; have HE3 := Aside0.mk HE2; have KP3 := Aside0.mk KP2; have hcj : wn.cell? ⟨bi, 0, none⟩ = some (.int .i64 i) := (blk_cell (blk_kept BI.out KP2 NBI.out) 0).trans rfl; clear HE2 KP2)
                    have BX3 := Aside0.mk (blk_kept BX.out KP3.out NBX.out)
                    have BF3 := Aside0.mk (blk_kept BF.out KP3.out NBF.out)
                    have KPN := Aside0.mk (KP.out.then_ KP3.out (fun _ h => .inl h))
                    clear hct hcm hcw hcd hck hfw hfd hcx1 hci cib cwb hent2 CALL BX BF HE KP BI
                    go_wp2_with ((with_reducible refine gate_dst (N := 16) rfl ?_); refine box_event ?hg (N := 16) ?hd (cs := #[.int .i64 0]) (t := 3) ?hr ?_; (case hd => rfl); (case hg => rfl); (case hr => first | (go_simp; done) | (go_simp; rfl)); intro bj hg w1 hbox hb; have hce0 : w1.cell? ⟨bj, 0, none⟩ = some (.int .i64 0) := (blk_cell hbox 0).trans rfl; have hfe0 := blk_frozen hbox 0; have BJ := Aside0.mk hbox; have BB := Aside0.mk hb; have GJ := Aside0.mk hg; clear hbox hb hg)
                    obtain ⟨w5, hw5⟩ : ∃ w5 : World, w5 = (w1.setCell ⟨bj, 0, none⟩ (.int .i64 i)).setCell ⟨bj, 0, none⟩ (.int .i64 (wrap64 (i + 1))) := ⟨_, rfl⟩
                    have hgi : wn.heap.size ≤ bj := by rw [GJ.out]; exact Nat.le_refl _
                    have BB5 : Below wn.heap.size wn w5 := by rw [hw5]; exact below_set (below_set BB.out hgi) hgi
                    have BI5 : w5.heap[bj]? = some (.cells #[.int .i64 (wrap64 (i + 1))] 3 (0, 0)) := by rw [hw5]; exact blk_set (blk_set BJ.out 0 _) 0 _
                    first | rw [← hw5] | skip
                    go_roundg kq
                    case measure => omega
                    case rel => exact ⟨_, _, _, _, bj, rfl, rfl, HH, ⟨by have := HKQ.out; omega⟩, ⟨HE3.out.move BB5⟩, ⟨KPN.out.below BB5⟩, ⟨BI5⟩, ⟨by have := blk_lt BF3.out; omega⟩, ⟨by have := KPN.out.1; omega⟩, ⟨blk_below BX3.out BB5⟩, ⟨blk_below BF3.out BB5⟩⟩
                  · rw [if_neg cw] at H
                    have cwb : decide (wg' < 0) = false := decide_eq_false cw
                    clear cw
                    simp only [Option.some.injEq, Prod.mk.injEq] at H
                    obtain ⟨rfl, rfl, rfl⟩ := H
                    go_wp2
                    go_ret
                    exact ⟨rfl, HE.out, KP.out⟩
                · rw [if_neg ci] at H
                  have cib : decide (i < x.f1) = false := decide_eq_false ci
                  clear ci
                  simp only [Option.some.injEq, Prod.mk.injEq] at H
                  obtain ⟨rfl, rfl, rfl⟩ := H
                  go_wp2
                  go_ret
                  exact ⟨rfl, HE.out, KP.out⟩
    · rw [if_neg c0] at h
      cases h
  · rw [if_neg c1] at h
    have c1b : decide ((l.length : Int) ≤ at_) = true := decide_eq_true (by omega)
    clear c1
    simp only [Option.some.injEq, Prod.mk.injEq] at h
    obtain ⟨rfl, rfl, rfl⟩ := h
    go_enter Try.func52, Try.ntmps52
    go_wp2
    go_ret
    exact ⟨rfl, HE.out.setw _, (Kept.refl _ _).setCell (.inl (.inl rfl)) _⟩
set_option maxHeartbeats 8000000 in
set_option maxRecDepth 100000 in
theorem tree_Check.calls (k : Nat) (A0 : Option Addr) (c0 : Nat) (l0 : List S43) (r1 r2 : Int) (w : World) (hr0 : Kd.C k43 w A0 l0.length l0) (hc0 : l0.length ≤ c0) (h : tree_Check.f k l0 = some (r1, r2)) :
    Calls Try.prog 32 #[.slice A0 l0.length c0] w fun e w' => e = .returned (.tuple #[.int .i64 r1, .int .i64 r2]) ∧ Below w.heap.size w w' := by
  unfold tree_Check.f at h
  have HR := Aside0.mk hr0
  have HC := Aside0.mk hc0
  clear hr0 hc0
  have hu36 := Try.underlying36
  by_cases cl : (l0.length : Int) > 2048
  · rw [if_pos cl] at h
    have clb : decide (2048 < (l0.length : Int)) = true := decide_eq_true cl
    clear cl
    simp only [Option.some.injEq, Prod.mk.injEq] at h
    obtain ⟨rfl, rfl⟩ := h
    go_enter Try.func32, Try.ntmps32
    go_wp2_with ((with_reducible refine gate_dst (N := 1) rfl ?_); refine box_event ?hg (N := 1) ?hd (cs := #[.slice A0 l0.length c0]) (t := 36) ?hr ?_; (case hd => rfl); (case hg => rfl); (case hr => first | (go_simp; done) | (go_simp; rfl)); intro bt hg1 w1 hbox1 hb1; have hc1 : w1.cell? ⟨bt, 0, none⟩ = some (.slice A0 l0.length c0) := (blk_cell hbox1 0).trans rfl; have hf1 := blk_frozen hbox1 0; have BO1 := Aside0.mk hbox1; have BB1 := Aside0.mk hb1; have GG1 := Aside0.mk hg1; clear hbox1 hb1 hg1)
    go_ret2
    exact ⟨rfl, BB1.out⟩
  rw [if_neg cl] at h
  have HL := Aside0.mk (show l0.length ≤ 2048 by omega)
  have clb : decide (2048 < (l0.length : Int)) = false := decide_eq_false cl
  clear cl
  obtain ⟨⟨q1, q2, q3⟩, HW, H⟩ := Option.bind_eq_some_iff.mp h
  have HWA := Aside0.mk HW
  have HH := Aside0.mk H
  clear h HW H
  go_enter Try.func32, Try.ntmps32
  go_upto_region 3 with ((with_reducible refine gate_dst (N := 1) rfl ?_); refine box_event ?hg (N := 1) ?hd (cs := #[.slice A0 l0.length c0]) (t := 36) ?hr ?_; (case hd => rfl); (case hg => rfl); (case hr => first | (go_simp; done) | (go_simp; rfl)); intro bt hg1 w1 hbox1 hb1; have hc1 : w1.cell? ⟨bt, 0, none⟩ = some (.slice A0 l0.length c0) := (blk_cell hbox1 0).trans rfl; have hf1 := blk_frozen hbox1 0; have BO1 := Aside0.mk hbox1; have BB1 := Aside0.mk hb1; have GG1 := Aside0.mk hg1; clear hbox1 hb1 hg1)
  go_upto_region 4 with (first | ((with_reducible refine (tree_forms.calls _).mono ?_); rintro e wf ⟨b, rfl, hfb, hbl, hgb⟩; have FB := Aside0.mk hfb; have FL := Aside0.mk hbl; have FG := Aside0.mk hgb; clear hfb hbl hgb) | ((with_reducible refine gate_dst (N := 4) rfl ?_); refine box_event ?hg (N := 4) ?hd (cs := #[.map none]) (t := 68) ?hr ?_; (case hd => rfl); (case hg => rfl); (case hr => first | (go_simp; done) | (go_simp; rfl)); intro bm hg4 w2 hbox4 hb4; have hc4 : w2.cell? ⟨bm, 0, none⟩ = some (.map none) := (blk_cell hbox4 0).trans rfl; have hf4 := blk_frozen hbox4 0; have BO4 := Aside0.mk hbox4; have BB4 := Aside0.mk hb4; have GG4 := Aside0.mk hg4; clear hbox4 hb4 hg4))
  obtain ⟨w3, hw3⟩ : ∃ w3 : World, w3 = w2.setCell ⟨bm, 0, none⟩ (.map (some b)) := ⟨_, rfl⟩
  rw [← hw3]
  have O1 := Aside0.mk (show bt < b by have := FG.out; have := blk_lt BO1.out; omega)
  have O2 := Aside0.mk (show b < bm by rw [GG4.out]; exact blk_lt FB.out)
  have L3 : Below wf.heap.size wf w3 := by rw [hw3]; exact below_set BB4.out (Nat.le_of_eq GG4.out.symm)
  have T3 := Aside0.mk (blk_below (blk_below BO1.out FL.out) L3)
  have F3 := Aside0.mk (blk_below FB.out L3)
  have M3 : Aside0 (w3.heap[bm]? = some (.cells #[.map (some b)] 68 (0, 0))) := ⟨by rw [hw3]; exact blk_set BO4.out 0 _⟩
  have B3 := Aside0.mk (below_then (below_then BB1.out BB1.out.size FL.out) (below_then BB1.out BB1.out.size FL.out).size L3)
  clear hw3 hc1 hf1 BO1 BB1 hc4 hf4 BO4 BB4 GG4 FB FL FG L3
  go_upto_region 5 with (first | ((with_reducible refine gate_dst (N := 5) rfl ?_); refine box_event ?hg (N := 5) ?hd (cs := #[.int .i64 0]) (t := 3) ?hr ?_; (case hd => rfl); (case hg => rfl); (case hr => first | (go_simp; done) | (go_simp; rfl)); intro bw hg5 w4 hbox5 hb5; have hc5 : w4.cell? ⟨bw, 0, none⟩ = some (.int .i64 0) := (blk_cell hbox5 0).trans rfl; have hf5 := blk_frozen hbox5 0; have BO5 := Aside0.mk hbox5; have BB5 := Aside0.mk hb5; have GG5 := Aside0.mk hg5; clear hbox5 hb5 hg5) | ((with_reducible refine gate_dst (N := 6) rfl ?_); refine box_event ?hg (N := 6) ?hd (cs := #[.int .i64 0]) (t := 3) ?hr ?_; (case hd => rfl); (case hg => rfl); (case hr => first | (go_simp; done) | (go_simp; rfl)); intro bd hg6 w5 hbox6 hb6; have hc6 : w5.cell? ⟨bd, 0, none⟩ = some (.int .i64 0) := (blk_cell hbox6 0).trans rfl; have hf6 := blk_frozen hbox6 0; have BO6 := Aside0.mk hbox6; have BB6 := Aside0.mk hb6; have GG6 := Aside0.mk hg6; have hc5b : w5.cell? ⟨bw, 0, none⟩ = some (.int .i64 0) := (blk_cell (blk_below BO5.out hb6) 0).trans rfl; have hf5b := blk_frozen (blk_below BO5.out hb6) 0; have hn6 : bd ≠ bw := Nat.ne_of_gt (Nat.lt_of_lt_of_eq (blk_lt BO5.out) hg6.symm); obtain ⟨hc6b, hf6b⟩ := far_get hbox6 hn6; clear hn6; clear hbox6 hb6 hg6))
  obtain ⟨w6, hw6⟩ : ∃ w6 : World, w6 = (w5.setCell ⟨bw, 0, none⟩ (.int .i64 (-1))).setCell ⟨bd, 0, none⟩ (.int .i64 (-1)) := ⟨_, rfl⟩
  rw [← hw6]
  have O3 := Aside0.mk (show bm < bw by rw [GG5.out]; exact blk_lt M3.out)
  have O4 := Aside0.mk (show bw < bd by rw [GG6.out]; exact blk_lt BO5.out)
  have L6 : Below w3.heap.size w3 w6 := by
    have a : w3.heap.size ≤ bw := Nat.le_of_eq GG5.out.symm
    have c : w3.heap.size ≤ bd := by have := O4.out; omega
    rw [hw6]
    exact below_set (below_set (below_step BB5.out BB6.out) a) c
  have T6 := Aside0.mk (blk_below T3.out L6)
  have F6 := Aside0.mk (blk_below F3.out L6)
  have M6 := Aside0.mk (blk_below M3.out L6)
  have W6 : Aside0 (w6.heap[bw]? = some (.cells #[.int .i64 (-1)] 3 (0, 0))) := ⟨by rw [hw6]; exact obj_far (blk_set (blk_below BO5.out BB6.out) 0 _) (by show bw ≠ bd; have := O4.out; omega)⟩
  have D6 : Aside0 (w6.heap[bd]? = some (.cells #[.int .i64 (-1)] 3 (0, 0))) := ⟨by rw [hw6]; exact blk_set (obj_far BO6.out (by show bd ≠ bw; have := O4.out; omega)) 0 _⟩
  have B6 := Aside0.mk (below_then B3.out B3.out.size L6)
  clear hw6 hc5 hf5 hc5b hf5b hc6b hf6b BO5 BB5 hc6 hf6 BO6 BB6 GG5 GG6 L6 T3 F3 M3 B3
  go_upto_region 7 with ((with_reducible refine gate_dst (N := 7) rfl ?_); refine box_event ?hg (N := 7) ?hd (cs := #[.nilFunc]) (t := 70) ?hr ?_; (case hd => rfl); (case hg => rfl); (case hr => first | (go_simp; done) | (go_simp; rfl)); intro bk hg7 w7 hbox7 hb7; have hc7 : w7.cell? ⟨bk, 0, none⟩ = some .nilFunc := (blk_cell hbox7 0).trans rfl; have hf7 := blk_frozen hbox7 0; have BO7 := Aside0.mk hbox7; have BB7 := Aside0.mk hb7; have GG7 := Aside0.mk hg7; clear hbox7 hb7 hg7)
  obtain ⟨w8, hw8⟩ : ∃ w8 : World, w8 = w7.setCell ⟨bk, 0, none⟩ (.func (.func 52) #[] #[.pointer (some ⟨bt, 0, none⟩), .pointer (some ⟨bw, 0, none⟩), .pointer (some ⟨bm, 0, none⟩), .pointer (some ⟨bd, 0, none⟩), .pointer (some ⟨bk, 0, none⟩)]) := ⟨_, rfl⟩
  rw [← hw8]
  have O5 := Aside0.mk (show bd < bk by rw [GG7.out]; exact blk_lt D6.out)
  have L8 : Below w6.heap.size w6 w8 := by rw [hw8]; exact below_set BB7.out (Nat.le_of_eq GG7.out.symm)
  have K8 : Aside0 (w8.heap[bk]? = some (.cells #[(.func (.func 52) #[] #[.pointer (some ⟨bt, 0, none⟩), .pointer (some ⟨bw, 0, none⟩), .pointer (some ⟨bm, 0, none⟩), .pointer (some ⟨bd, 0, none⟩), .pointer (some ⟨bk, 0, none⟩)])] 70 (0, 0))) := ⟨by rw [hw8]; exact blk_set BO7.out 0 _⟩
  have HE : Aside0 (ChkEnv w w8 l0 A0 c0 bt b bm bw bd bk (-1) (-1)) := ⟨below_then B6.out B6.out.size L8, HR.out, HC.out, blk_below T6.out L8, blk_below F6.out L8, blk_below M6.out L8, blk_below W6.out L8, blk_below D6.out L8, K8.out, by have := GG1.out; have := O1.out; have := O2.out; have := O3.out; have := O4.out; have := O5.out; omega⟩
  clear hw8 hc7 hf7 BO7 BB7 GG7 L8 K8 T6 F6 M6 W6 D6 B6 O1 O2 O3 O4 O5 GG1
  obtain ⟨hct, hcm, hcw, hcd, hck, hfw, hfd⟩ := HE.out.get
  have CALL := Aside0.mk (chk_walk HL.out k 0 1 54 [] _ _ _ _ _ _ w8 HE.out enters_two (may_two _ _ _) HWA.out)
  have hent2 : ∀ (args : Array Value) (w : World), Sem.run Try.prog (callFunc 52 args) w = .ok (.enter 52 args) w := enters_walk
  go_upto_block 0 with ((with_reducible refine CALL.out.mono ?_); rintro e w9 ⟨rfl, HE2, KP2⟩; have HE3 := Aside0.mk HE2; clear HE2 KP2)
  clear hct hcm hcw hcd hck hfw hfd CALL hent2 HE
  have H := HH.out
  clear HH
  obtain ⟨hct, hcm, hcw, hcd, hck, hfw, hfd⟩ := HE3.out.get
  by_cases cA : 0 ≤ q2
  · rw [if_pos cA] at H
    have cAb : decide (0 ≤ q2) = true := decide_eq_true cA
    clear cA
    simp only [Option.some.injEq, Prod.mk.injEq] at H
    obtain ⟨rfl, rfl⟩ := H
    go_wp2
    go_ret2
    exact ⟨rfl, HE3.out.below⟩
  rw [if_neg cA] at H
  have cAb : decide (0 ≤ q2) = false := decide_eq_false cA
  clear cA
  by_cases cB : q1 < (l0.length : Int)
  · rw [if_pos cB] at H
    have cBb : decide (q1 < (l0.length : Int)) = true := decide_eq_true cB
    clear cB
    simp only [Option.some.injEq, Prod.mk.injEq] at H
    obtain ⟨rfl, rfl⟩ := H
    go_wp2
    go_ret2
    exact ⟨rfl, HE3.out.below⟩
  rw [if_neg cB] at H
  have cBb : decide (q1 < (l0.length : Int)) = false := decide_eq_false cB
  clear cB
  by_cases cC : 0 ≤ q3
  · rw [if_pos cC] at H
    have cCb : decide (0 ≤ q3) = true := decide_eq_true cC
    clear cC
    simp only [Option.some.injEq, Prod.mk.injEq] at H
    obtain ⟨rfl, rfl⟩ := H
    go_wp2
    go_ret2
    exact ⟨rfl, HE3.out.below⟩
  rw [if_neg cC] at H
  have cCb : decide (0 ≤ q3) = false := decide_eq_false cC
  clear cC
  simp only [Option.some.injEq, Prod.mk.injEq] at H
  obtain ⟨rfl, rfl⟩ := H
  go_wp2
  go_ret2
  exact ⟨rfl, HE3.out.below⟩
end Go.Proofs.Ytlbchdalimngjaa.P
namespace Go.Proofs.Ytlbchdalimngjaa.P
open Go.RowKit Go.Proofs.YtlbchdalimngjaaW.PrintWords Go.Proofs.YtlbchdalimngjaaW.PrintLast Go.Proofs.YtlbchdalimngjaaW.PrintMore
attribute [local go_sem] max2_int min2_int max_two min_two max_three min_three max_four min_four
set_option linter.unusedVariables false
set_option linter.unusedSimpArgs false
def tree_Depth.f (k : Nat) (l0 : List (S43)) : Option (Int) := (tree_Check.f k l0).bind fun bt361 => (if bt361.2 = 0 then ((tree_depth.f k l0).bind fun t363 => (some t363)) else (some 0))
theorem tree_Depth.mono : ∀ a0 k, LeO (tree_Depth.f k a0) (tree_Depth.f (k + 1) a0) := by
  intro a0 k
  unfold tree_Depth.f
  repeat' first
      | (with_reducible exact tree_Check.mono _ _)
      | (with_reducible exact tree_depth.mono _ _)
      | (with_reducible exact LeO.refl _)
      | (with_reducible exact LeO.none _)
      | (with_reducible refine LeO.ite ?_ ?_)
      | (with_reducible refine LeO.bind ?_ (fun _ => ?_))
      | exact tree_Check.mono _ _
      | exact tree_depth.mono _ _
      | exact LeO.none _
      | refine LeO.ite ?_ ?_
      | refine LeO.bind ?_ (fun _ => ?_)
set_option maxHeartbeats 8000000 in
set_option maxRecDepth 100000 in
theorem tree_Depth.calls (k : Nat) (A0 : Option Addr) (c0 : Nat) (l0 : List (S43)) (r : Int) (w : World) (hr0 : Kd.C k43 w A0 l0.length l0) (hc0 : l0.length ≤ c0) (h : tree_Depth.f k l0 = some r) :
    Calls Try.prog 33 #[.slice A0 l0.length c0] w fun e w' => e = .returned (.int .i64 r) ∧ Below w.heap.size w w' := by
  have HR0 := Aside0.mk hr0
  have HC0 := Aside0.mk hc0
  clear hr0 hc0
  have HB := Aside0.mk (Below.refl w.heap.size w)
  have H : ((tree_Check.f k l0).bind fun bt361 => (if bt361.2 = 0 then ((tree_depth.f k l0).bind fun t363 => (some t363)) else (some 0))) = some r := h
  clear h
  replace H := Option.bind_eq_some_iff.mp H
  obtain ⟨⟨t361, t362⟩, A20, H⟩ := H
  replace H : (if t362 = 0 then ((tree_depth.f k l0).bind fun t363 => (some t363)) else (some 0)) = some r := H
  have A2 := Aside0.mk A20
  clear A20
  by_cases c3 : t362 = 0
  · rw [if_pos c3] at H
    have c3b0 : (t362 == 0) = true := beq_iff_eq.mpr c3
    have c3b1 : (t362 != 0) = false := bne_eq_false_iff_eq.mpr c3
    clear c3
    replace H := Option.bind_eq_some_iff.mp H
    obtain ⟨t363, A40, H⟩ := H
    replace H : (some t363) = some r := H
    have A4 := Aside0.mk A40
    clear A40
    obtain rfl := Option.some.inj H
    go_enter Try.func33, Try.ntmps33
    go_wp2_with (first | ((with_reducible refine gate_callee (f := 32) rfl ?_); refine goesL_ (some 7) rfl rfl Try.func32 (by kernel_rfl) rfl #[.slice A0 l0.length c0] rfl (by (try simp only [List.map_toArray, List.map_cons, List.map_nil]); first | done | rfl | (simp only [List.length_drop, List.length_take]; rfl)) ?_; (with_reducible refine (tree_Check.calls k _ _ l0 t361 t362 _ ?side1 ?side2 A2.out).mono ?_); (case side1 => repeat (first | exact HR0.out | (with_reducible refine Kd.C_alloc ?_ _) | (with_reducible refine Kd.C_drewN ?_ _) | (with_reducible refine Kd.C_drew ?_))); (case side2 => exact HC0.out); rintro e w5 ⟨rfl, hb⟩; refine ⟨_, rfl, ?_⟩; have n0_ := Aside0.mk (below_step (by repeat (first | (with_reducible first | exact HB.out | apply below_alloc | apply pw_below_drewN | apply below_drew1) | exact HB.out)) hb); clear HB; have HB := n0_; clear n0_; (try clear hb); (try clear hb2); (try clear hk); (try clear hi)) | ((with_reducible refine gate_callee (f := 55) rfl ?_); refine goesL_ (some 13) rfl rfl Try.func55 (by kernel_rfl) rfl #[.slice A0 l0.length c0] rfl (by (try simp only [List.map_toArray, List.map_cons, List.map_nil]); first | done | rfl | (simp only [List.length_drop, List.length_take]; rfl)) ?_; (with_reducible refine (tree_depth.calls k _ _ l0 t363 _ ?side1 ?side2 A4.out).mono ?_); (case side1 => repeat (first | exact (Kd.C_below HR0.out HB.out) | (with_reducible refine Kd.C_alloc ?_ _) | (with_reducible refine Kd.C_drewN ?_ _) | (with_reducible refine Kd.C_drew ?_))); (case side2 => exact HC0.out); rintro e w6 ⟨rfl, hb⟩; refine ⟨_, rfl, ?_⟩; have n0_ := Aside0.mk (below_step (by repeat (first | (with_reducible first | exact HB.out | apply below_alloc | apply pw_below_drewN | apply below_drew1) | exact HB.out)) hb); clear HB; have HB := n0_; clear n0_; (try clear hb); (try clear hb2); (try clear hk); (try clear hi)))
    go_ret
    exact ⟨by first | rfl | (simp [errW_none, errW_some] <;> rfl) | (simp [*, errW_none, errW_some] <;> rfl), by repeat (first | (with_reducible first | exact HB.out | apply below_alloc | apply pw_below_drewN | apply below_drew1) | exact HB.out)⟩
  · rw [if_neg c3] at H
    have c3b0 : (t362 == 0) = false := beq_eq_false_iff_ne.mpr c3
    have c3b1 : (t362 != 0) = true := bne_iff_ne.mpr c3
    obtain rfl := Option.some.inj H
    go_enter Try.func33, Try.ntmps33
    go_wp2_with (first | ((with_reducible refine gate_callee (f := 32) rfl ?_); refine goesL_ (some 7) rfl rfl Try.func32 (by kernel_rfl) rfl #[.slice A0 l0.length c0] rfl (by (try simp only [List.map_toArray, List.map_cons, List.map_nil]); first | done | rfl | (simp only [List.length_drop, List.length_take]; rfl)) ?_; (with_reducible refine (tree_Check.calls k _ _ l0 t361 t362 _ ?side1 ?side2 A2.out).mono ?_); (case side1 => repeat (first | exact HR0.out | (with_reducible refine Kd.C_alloc ?_ _) | (with_reducible refine Kd.C_drewN ?_ _) | (with_reducible refine Kd.C_drew ?_))); (case side2 => exact HC0.out); rintro e w7 ⟨rfl, hb⟩; refine ⟨_, rfl, ?_⟩; have n0_ := Aside0.mk (below_step (by repeat (first | (with_reducible first | exact HB.out | apply below_alloc | apply pw_below_drewN | apply below_drew1) | exact HB.out)) hb); clear HB; have HB := n0_; clear n0_; (try clear hb); (try clear hb2); (try clear hk); (try clear hi)))
    go_ret
    exact ⟨by first | rfl | (simp [errW_none, errW_some] <;> rfl) | (simp [*, errW_none, errW_some] <;> rfl), by repeat (first | (with_reducible first | exact HB.out | apply below_alloc | apply pw_below_drewN | apply below_drew1) | exact HB.out)⟩
def prompterlaw08_wakes.f (k : Nat)  : Option (Bool) := (tree_Depth.f k (([(⟨36, 2, 0, (⟨#[]⟩ : ByteArray)⟩ : S43), (⟨23, 0, 1, (⟨#[]⟩ : ByteArray)⟩ : S43), (⟨23, 0, 2, (⟨#[]⟩ : ByteArray)⟩ : S43)] : List (S43)))).bind fun t367 => (some (t367 == 2))
theorem prompterlaw08_wakes.mono : ∀ k, LeO (prompterlaw08_wakes.f k ) (prompterlaw08_wakes.f (k + 1) ) := by
  intro  k
  unfold prompterlaw08_wakes.f
  repeat' first
      | (with_reducible exact tree_Depth.mono _ _)
      | (with_reducible exact LeO.refl _)
      | (with_reducible exact LeO.none _)
      | (with_reducible refine LeO.ite ?_ ?_)
      | (with_reducible refine LeO.bind ?_ (fun _ => ?_))
      | exact tree_Depth.mono _ _
      | exact LeO.none _
      | refine LeO.ite ?_ ?_
      | refine LeO.bind ?_ (fun _ => ?_)
set_option maxHeartbeats 8000000 in
set_option maxRecDepth 100000 in
theorem prompterlaw08_wakes.calls (k : Nat)  (r : Bool) (w : World) (h : prompterlaw08_wakes.f k  = some r) :
    Calls Try.prog 20 #[] w fun e w' => e = .returned (.bool r) ∧ Below w.heap.size w w' := by
  have hu43 := Try.underlying43
  have HB := Aside0.mk (Below.refl w.heap.size w)
  have H : ((tree_Depth.f k (([(⟨36, 2, 0, (⟨#[]⟩ : ByteArray)⟩ : S43), (⟨23, 0, 1, (⟨#[]⟩ : ByteArray)⟩ : S43), (⟨23, 0, 2, (⟨#[]⟩ : ByteArray)⟩ : S43)] : List (S43)))).bind fun t367 => (some (t367 == 2))) = some r := h
  clear h
  obtain ⟨y364, hy364⟩ : ∃ y_ : List (S43), y_ = (([(⟨36, 2, 0, (⟨#[]⟩ : ByteArray)⟩ : S43), (⟨23, 0, 1, (⟨#[]⟩ : ByteArray)⟩ : S43), (⟨23, 0, 2, (⟨#[]⟩ : ByteArray)⟩ : S43)] : List (S43))) := ⟨_, rfl⟩
  replace H : ((tree_Depth.f k y364).bind fun t367 => (some (t367 == 2))) = some r := by first | (rw [hy364]; with_reducible exact H) | (have H2_ := (Option.bind_some _ _).symm.trans H; rw [hy364]; with_reducible exact H2_) | (have H2_ := (Option.bind_some _ _).symm.trans H; with_reducible exact H2_) | with_reducible exact H | (rw [hy364]; exact H) | exact H
  have Ny364 := Aside0.mk hy364
  clear hy364
  replace H := Option.bind_eq_some_iff.mp H
  obtain ⟨t367, A10, H⟩ := H
  replace H : (some (t367 == 2)) = some r := H
  have A1 := Aside0.mk A10
  clear A10
  obtain rfl := Option.some.inj H
  go_enter Try.func20, Try.ntmps20
  go_wp2_with (first | ((with_reducible refine gate_dst (N := 4) rfl ?_); refine Kd.R_lit k43 _ 43 ?hg (N := 4) ?hd (xs := ([(⟨36, 2, 0, (⟨#[]⟩ : ByteArray)⟩ : S43), (⟨23, 0, 1, (⟨#[]⟩ : ByteArray)⟩ : S43), (⟨23, 0, 2, (⟨#[]⟩ : ByteArray)⟩ : S43)] : List (S43))) (inner := [.int .u8 36, .int .i64 2, .int .i64 0, .string (⟨#[]⟩ : ByteArray), .int .u8 23, .int .i64 0, .int .i64 1, .string (⟨#[]⟩ : ByteArray), .int .u8 23, .int .i64 0, .int .i64 2, .string (⟨#[]⟩ : ByteArray)]) (ok := fun _ => True) (okp := fun _ => True) ?hr ?hp (fun _ hk => hk) trivial (Below.refl _ _) (Nat.le_refl _) (by simp) ?_; (case hd => rfl); (case hg => rfl); (case hr => first | (go_simp; done) | (go_simp; rfl)); (case hp => exact (Reps.c4 (show Kd.M k43 _ _ _ (⟨36, 2, 0, (⟨#[]⟩ : ByteArray)⟩ : S43) [.int .u8 36, .int .i64 2, .int .i64 0, .string (⟨#[]⟩ : ByteArray)] from (k43_mkM _ _ _ (⟨36, 2, 0, (⟨#[]⟩ : ByteArray)⟩ : S43) )) (Reps.c4 (show Kd.M k43 _ _ _ (⟨23, 0, 1, (⟨#[]⟩ : ByteArray)⟩ : S43) [.int .u8 23, .int .i64 0, .int .i64 1, .string (⟨#[]⟩ : ByteArray)] from (k43_mkM _ _ _ (⟨23, 0, 1, (⟨#[]⟩ : ByteArray)⟩ : S43) )) (Reps.c4 (show Kd.M k43 _ _ _ (⟨23, 0, 2, (⟨#[]⟩ : ByteArray)⟩ : S43) [.int .u8 23, .int .i64 0, .int .i64 2, .string (⟨#[]⟩ : ByteArray)] from (k43_mkM _ _ _ (⟨23, 0, 2, (⟨#[]⟩ : ByteArray)⟩ : S43) )) (Reps.none _ _))))); intro v365 w2 ho3 hb hg_ hnew_; clear hg_ hnew_; (first | rw [← Ny364.out] at ho3 | (simp only [Int.reduceToNat] at ho3; rw [← Ny364.out] at ho3)); have n0_ := Aside0.mk (Kd.R_lower ho3 (below_size (by repeat (first | (with_reducible first | exact HB.out | apply below_alloc | apply pw_below_drewN | apply below_drew1) | exact HB.out)))); have n1_ := Aside0.mk (below_step (by repeat (first | (with_reducible first | exact HB.out | apply below_alloc | apply pw_below_drewN | apply below_drew1) | exact HB.out)) hb); clear HB; have HO366 := n0_; have HB := n1_; clear n0_ n1_; clear hb ho3; obtain ⟨Ao4, co4, eo4⟩ := Kd.R_slice HO366.out; subst eo4) | ((with_reducible refine gate_callee (f := 33) rfl ?_); refine goesL_ (some 5) rfl rfl Try.func33 (by kernel_rfl) rfl #[.slice Ao4 y364.length co4] rfl (by (try simp only [List.map_toArray, List.map_cons, List.map_nil]); first | done | rfl | (simp only [List.length_drop, List.length_take]; rfl)) ?_; (with_reducible refine (tree_Depth.calls k _ _ y364 t367 _ ?side1 ?side2 A1.out).mono ?_); (case side1 => repeat (first | exact (Kd.R_reads' HO366.out).2.2 | (with_reducible refine Kd.C_alloc ?_ _) | (with_reducible refine Kd.C_drewN ?_ _) | (with_reducible refine Kd.C_drew ?_))); (case side2 => exact (Kd.R_reads' HO366.out).2.1); rintro e w5 ⟨rfl, hb⟩; refine ⟨_, rfl, ?_⟩; have n0_ := Aside0.mk (Kd.R_below (by (with_reducible repeat (first | apply Kd.R_alloc | apply Kd.R_drewN | apply Kd.R_drew)); exact HO366.out) hb); have n1_ := Aside0.mk (below_step (by repeat (first | (with_reducible first | exact HB.out | apply below_alloc | apply pw_below_drewN | apply below_drew1) | exact HB.out)) hb); clear HO366; clear HB; have HO366 := n0_; have HB := n1_; clear n0_ n1_; (try clear hb); (try clear hb2); (try clear hk); (try clear hi)))
  go_ret
  exact ⟨by first | rfl | (simp [errW_none, errW_some] <;> rfl) | (simp [*, errW_none, errW_some] <;> rfl), by repeat (first | (with_reducible first | exact HB.out | apply below_alloc | apply pw_below_drewN | apply below_drew1) | exact HB.out)⟩
def tree_Parts.l0 : Nat → List (S43) → List (List (S43)) → Int → Option ((List (List (S43))) × Int)
  | 0, _, _, _ => none
  | k + 1, x0, x6, x7 => if x7 < (x0.length : Int) then ((tree_ends.f k x0 x7).bind fun t382 => (if 0 ≤ x7 then (if x7 ≤ t382 then (if t382 ≤ (x0.length : Int) then ((some ((x0.take (t382 : Int).toNat).drop (x7 : Int).toNat : List (S43))).bind fun y383 => (if ([] : List (S43)).length + y383.length < 3518437208883 then (if x6.length < 5864062014805 then (tree_Parts.l0 k x0 (x6 ++ [(([] : List (S43)) ++ y383)]) t382) else (none)) else (none))) else (none)) else (none)) else (none))) else (some (x6, 0))
def tree_Parts.f (k : Nat) (l0 : List (S43)) : Option ((List (List (S43))) × Int) := (tree_Check.f k l0).bind fun bt380 => (if bt380.2 = 0 then (tree_Parts.l0 k l0 ([] : List (List (S43))) 1) else (some (([] : List (List (S43))), bt380.2)))
theorem tree_Parts.mono_l : ∀ k, (∀ y0 y1 y2, LeO (tree_Parts.l0 k y0 y1 y2) (tree_Parts.l0 (k + 1) y0 y1 y2))
  | 0 => fun _ _ _ r h => by simp [tree_Parts.l0] at h
  | k + 1 => by
    have ih0 := tree_Parts.mono_l k
    · intro y0 y1 y2
      unfold tree_Parts.l0
      repeat' first
      | (with_reducible exact ih0 _ _ _)
      | (with_reducible exact tree_Check.mono _ _)
      | (with_reducible exact tree_ends.mono _ _ _)
      | (with_reducible exact LeO.refl _)
      | (with_reducible exact LeO.none _)
      | (with_reducible refine LeO.ite ?_ ?_)
      | (with_reducible refine LeO.bind ?_ (fun _ => ?_))
      | exact ih0 _ _ _
      | exact tree_Check.mono _ _
      | exact tree_ends.mono _ _ _
      | exact LeO.none _
      | refine LeO.ite ?_ ?_
      | refine LeO.bind ?_ (fun _ => ?_)
theorem tree_Parts.mono : ∀ a0 k, LeO (tree_Parts.f k a0) (tree_Parts.f (k + 1) a0) := by
  intro a0 k
  have ih0 := tree_Parts.mono_l k
  unfold tree_Parts.f
  repeat' first
      | (with_reducible exact ih0 _ _ _)
      | (with_reducible exact tree_Check.mono _ _)
      | (with_reducible exact tree_ends.mono _ _ _)
      | (with_reducible exact LeO.refl _)
      | (with_reducible exact LeO.none _)
      | (with_reducible refine LeO.ite ?_ ?_)
      | (with_reducible refine LeO.bind ?_ (fun _ => ?_))
      | exact ih0 _ _ _
      | exact tree_Check.mono _ _
      | exact tree_ends.mono _ _ _
      | exact LeO.none _
      | refine LeO.ite ?_ ?_
      | refine LeO.bind ?_ (fun _ => ?_)
set_option maxHeartbeats 8000000 in
set_option maxRecDepth 100000 in
theorem tree_Parts.calls (k : Nat) (A0 : Option Addr) (c0 : Nat) (l0 : List (S43)) (r1 : List (List (S43))) (r2 : Int) (w : World) (hr0 : Kd.C k43 w A0 l0.length l0) (hc0 : l0.length ≤ c0) (h : tree_Parts.f k l0 = some (r1, r2)) :
    Calls Try.prog 26 #[.slice A0 l0.length c0] w fun e w' => ∃ v0_ : Value, e = .returned (.tuple #[v0_, .int .i64 r2]) ∧ Kd.S (Kd.slice 43 k43) 36 w' w.heap.size (fun _ => True) v0_ r1 ∧ Below w.heap.size w w' := by
  have HR0 := Aside0.mk hr0
  have HC0 := Aside0.mk hc0
  clear hr0 hc0
  have HB := Aside0.mk (Below.refl w.heap.size w)
  have H : ((tree_Check.f k l0).bind fun bt380 => (if bt380.2 = 0 then (tree_Parts.l0 k l0 ([] : List (List (S43))) 1) else (some (([] : List (List (S43))), bt380.2)))) = some (r1, r2) := h
  clear h
  replace H := Option.bind_eq_some_iff.mp H
  obtain ⟨⟨t380, t381⟩, A20, H⟩ := H
  replace H : (if t381 = 0 then (tree_Parts.l0 k l0 ([] : List (List (S43))) 1) else (some (([] : List (List (S43))), t381))) = some (r1, r2) := H
  have A2 := Aside0.mk A20
  clear A20
  by_cases c3 : t381 = 0
  · rw [if_pos c3] at H
    have c3b0 : (t381 == 0) = true := beq_iff_eq.mpr c3
    have c3b1 : (t381 != 0) = false := bne_eq_false_iff_eq.mpr c3
    clear c3
    have H' := Aside0.mk H
    clear H
    go_enter Try.func26, Try.ntmps26
    go_wp2_with (first | ((with_reducible refine gate_callee (f := 32) rfl ?_); refine goesL_ (some 11) rfl rfl Try.func32 (by kernel_rfl) rfl #[.slice A0 l0.length c0] rfl (by (try simp only [List.map_toArray, List.map_cons, List.map_nil]); first | done | rfl | (simp only [List.length_drop, List.length_take]; rfl)) ?_; (with_reducible refine (tree_Check.calls k _ _ l0 t380 t381 _ ?side1 ?side2 A2.out).mono ?_); (case side1 => repeat (first | exact HR0.out | (with_reducible refine Kd.C_alloc ?_ _) | (with_reducible refine Kd.C_drewN ?_ _) | (with_reducible refine Kd.C_drew ?_))); (case side2 => exact HC0.out); rintro e w4 ⟨rfl, hb⟩; refine ⟨_, rfl, ?_⟩; have n0_ := Aside0.mk (below_step (by repeat (first | (with_reducible first | exact HB.out | apply below_alloc | apply pw_below_drewN | apply below_drew1) | exact HB.out)) hb); clear HB; have HB := n0_; clear n0_; (try clear hb); (try clear hb2); (try clear hk); (try clear hi)))
    go_loopg [6, 7] k (fun kq v6 v7 w' => ∃ (x6_1 : List (List (S43))) (x7_1 : Int), v7 = .int .i64 x7_1 ∧ Aside0 (tree_Parts.l0 kq l0 x6_1 x7_1 = some (r1, r2)) ∧ Aside0 (kq ≤ k) ∧ Aside0 (Kd.S (Kd.slice 43 k43) 36 w' w.heap.size (fun _ => True) v6 x6_1) ∧ Aside0 (Below w.heap.size w w'))
    case atStart => exact ⟨(([] : List (List (S43)))), (1), (by first | rfl | (simp; done) | (simp [*]; done)), H', ⟨Nat.le_refl _⟩, ⟨by first | exact Kd.S_nil _ _ _ _ _ | exact Kd.N_nil _ _ _ _ _ | exact Kd.V_nil _ _ _ _ _ | exact Kd.Q_nil _ _ _ _ _ | exact Kd.R_nil _ _ _ _ _⟩, ⟨by repeat (first | (with_reducible first | exact HB.out | apply below_alloc | apply pw_below_drewN | apply below_drew1) | exact HB.out)⟩⟩
    case round =>
      clear H'
      try clear c2
      try clear p2
      try clear c3
      try clear c3b0
      try clear c3b1
      obtain ⟨x6_1, x7_1, rfl, HA, HK1, HO_6, HB⟩ := hrel
      cases gk with
      | zero => exact absurd HA.out (by simp [tree_Parts.l0])
      | succ k1 =>
        have H := HA.out
        clear HA
        simp only [tree_Parts.l0] at H
        by_cases c5 : x7_1 < (l0.length : Int)
        · rw [if_pos c5] at H
          have c5b0 : decide (x7_1 < (l0.length : Int)) = true := decide_eq_true c5
          clear c5
          replace H := Option.bind_eq_some_iff.mp H
          obtain ⟨t382, A60, H⟩ := H
          replace H : (if 0 ≤ x7_1 then (if x7_1 ≤ t382 then (if t382 ≤ (l0.length : Int) then ((some ((l0.take (t382 : Int).toNat).drop (x7_1 : Int).toNat : List (S43))).bind fun y383 => (if ([] : List (S43)).length + y383.length < 3518437208883 then (if x6_1.length < 5864062014805 then (tree_Parts.l0 k1 l0 (x6_1 ++ [(([] : List (S43)) ++ y383)]) t382) else (none)) else (none))) else (none)) else (none)) else (none)) = some (r1, r2) := H
          have A6 := Aside0.mk A60
          clear A60
          by_cases c7 : 0 ≤ x7_1
          · rw [if_pos c7] at H
            have c7b0 := eq_true c7
            have c7b1 : decide (0 ≤ x7_1) = true := decide_eq_true c7
            clear c7
            by_cases c8 : x7_1 ≤ t382
            · rw [if_pos c8] at H
              have c8b0 := eq_true c8
              have c8b1 : decide (x7_1 ≤ t382) = true := decide_eq_true c8
              clear c8
              by_cases c9 : t382 ≤ (l0.length : Int)
              · rw [if_pos c9] at H
                have c9b0 := eq_true c9
                have c9b1 : decide (t382 ≤ (l0.length : Int)) = true := decide_eq_true c9
                clear c9
                obtain ⟨y383, hy383⟩ : ∃ y_ : List (S43), y_ = ((l0.take (t382 : Int).toNat).drop (x7_1 : Int).toNat) := ⟨_, rfl⟩
                replace H : (if ([] : List (S43)).length + y383.length < 3518437208883 then (if x6_1.length < 5864062014805 then (tree_Parts.l0 k1 l0 (x6_1 ++ [(([] : List (S43)) ++ y383)]) t382) else (none)) else (none)) = some (r1, r2) := by first | (rw [hy383]; with_reducible exact H) | (have H2_ := (Option.bind_some _ _).symm.trans H; rw [hy383]; with_reducible exact H2_) | (have H2_ := (Option.bind_some _ _).symm.trans H; with_reducible exact H2_) | with_reducible exact H | (rw [hy383]; exact H) | exact H
                have Ny383 := Aside0.mk hy383
                clear hy383
                by_cases c10 : ([] : List (S43)).length + y383.length < 3518437208883
                · rw [if_pos c10] at H
                  have LMc10 := Aside0.mk c10
                  clear c10
                  obtain ⟨y387, hy387⟩ : ∃ y_ : List (S43), y_ = (([] : List (S43)) ++ y383) := ⟨_, rfl⟩
                  replace H : (if x6_1.length < 5864062014805 then (tree_Parts.l0 k1 l0 (x6_1 ++ [y387]) t382) else (none)) = some (r1, r2) := by first | (rw [hy387]; with_reducible exact H) | (have H2_ := (Option.bind_some _ _).symm.trans H; rw [hy387]; with_reducible exact H2_) | (have H2_ := (Option.bind_some _ _).symm.trans H; with_reducible exact H2_) | with_reducible exact H | (rw [hy387]; exact H) | exact H
                  have Ny387 := Aside0.mk hy387
                  clear hy387
                  by_cases c11 : x6_1.length < 5864062014805
                  · rw [if_pos c11] at H
                    have LMc11 := Aside0.mk c11
                    clear c11
                    obtain ⟨y390, hy390⟩ : ∃ y_ : List (List (S43)), y_ = (x6_1 ++ [y387]) := ⟨_, rfl⟩
                    replace H : (tree_Parts.l0 k1 l0 y390 t382) = some (r1, r2) := by first | (rw [hy390]; with_reducible exact H) | (have H2_ := (Option.bind_some _ _).symm.trans H; rw [hy390]; with_reducible exact H2_) | (have H2_ := (Option.bind_some _ _).symm.trans H; with_reducible exact H2_) | with_reducible exact H | (rw [hy390]; exact H) | exact H
                    have Ny390 := Aside0.mk hy390
                    clear hy390
                    have H' := Aside0.mk H
                    clear H
                    go_wp2_with (first | ((with_reducible refine gate_callee (f := 47) rfl ?_); refine goesL_ (some 23) rfl rfl Try.func47 (by kernel_rfl) rfl #[.slice A0 l0.length c0, .int .i64 x7_1] rfl (by (try simp only [List.map_toArray, List.map_cons, List.map_nil]); first | done | rfl | (simp only [List.length_drop, List.length_take]; rfl)) ?_; (with_reducible refine (tree_ends.calls k1 _ _ l0 x7_1 t382 _ ?side1 ?side2 A6.out).mono ?_); (case side1 => repeat (first | exact (Kd.C_below HR0.out HB.out) | (with_reducible refine Kd.C_alloc ?_ _) | (with_reducible refine Kd.C_drewN ?_ _) | (with_reducible refine Kd.C_drew ?_))); (case side2 => exact HC0.out); rintro e w' ⟨rfl, ⟨nd, rfl⟩⟩; refine ⟨_, rfl, ?_⟩; have q12 : (t382 : Int) ≤ ((l0.length : Int) : Int) := of_decide_eq_true (by first | (with_reducible assumption) | assumption); obtain ⟨i012, hi012, _, hsz12, _⟩ := info_parts info43; have hroom12 : l0.length ≤ c0 := HC0.out; have hC12 : Kd.C k43 _ A0 l0.length l0 := HR0.out; have ql12 : (x7_1 : Int) ≤ (t382 : Int) := of_decide_eq_true (by first | (with_reducible assumption) | assumption); have q012 : (0 : Int) ≤ (x7_1 : Int) := of_decide_eq_true (by first | (with_reducible assumption) | assumption); have hcut12 := cut_mid (P := Try.prog) 36 43 .i64 .i64 Try.underlying36 hi012 4 hsz12 A0 l0.length c0 x7_1 t382 q012 ql12 q12 hroom12; have hr12 := Kd.C_mid (lo := (x7_1 : Int).toNat) (hi := (t382 : Int).toNat) (c := c0) hC12 (by omega) (by omega) hroom12; obtain ⟨A12, hA12⟩ : ∃ A1, A1 = (if c0 = (x7_1 : Int).toNat then A0 else (A0 : Option Addr).map (·.add ((x7_1 : Int).toNat * 4))) := ⟨_, rfl⟩; obtain ⟨c12, hc12⟩ : ∃ c1, c1 = c0 - (x7_1 : Int).toNat := ⟨_, rfl⟩; have hy12 : y383.length = (t382 : Int).toNat - (x7_1 : Int).toNat := (by rw [Ny383.out, List.length_drop, List.length_take] <;> omega); rw [show ((l0).take (t382 : Int).toNat).drop (x7_1 : Int).toNat = y383 from Ny383.out.symm] at hr12; replace hr12 : Kd.C k43 _ A12 y383.length y383 := (by rw [hA12]; exact hr12); rw [← hy12, ← hA12, ← hc12] at hcut12; have HR386 := Aside0.mk hr12; have HC386 := Aside0.mk (show y383.length ≤ c12 from by rw [hy12, hc12]; exact Nat.sub_le_sub_right (Nat.le_trans (by omega) hroom12) _); clear hr12 hC12 hroom12 hi012 hsz12 hc12; have KY12 := Aside0.mk hy12; have KA12 := Aside0.mk hA12; clear hy12 hA12; replace q12 := eq_true q12) | ((with_reducible refine gate_builtin (b := .append) (xs := #[.const (.slice none 0 0), .tmp 28]) rfl ?_); at_builtin; refine Kd.R_append_rows k43 (w0 := w) w.heap.size rfl (.const (.slice none 0 0)) (.tmp 28) 36 43 (.agg #[(.int .u8 0), (.int .i64 0), (.int .i64 0), (.string ⟨#[]⟩)]) 40 rfl Try.underlying36 info43 rfl (by decide) (by omega) (.slice none 0 0) ([] : List (S43)) y383 _ _ _ (fun _ => True) (fun _ => False) rfl rfl ?aO ?aR (fun _ _ h => h) (fun _ h => h.elim) ?aF ?aB ?aS ?aL ?_; (case aR => repeat (first | exact (Kd.C_below HR386.out (by repeat (first | (with_reducible first | exact HB.out | apply below_alloc | apply pw_below_drewN | apply below_drew1) | exact HB.out))) | (with_reducible refine Kd.C_alloc ?_ _) | (with_reducible refine Kd.C_drewN ?_ _) | (with_reducible refine Kd.C_drew ?_))); (case aB => exact (by repeat (first | (with_reducible first | exact HB.out | apply below_alloc | apply pw_below_drewN | apply below_drew1) | exact HB.out))); (case aF => exact (fun _ _ => trivial)); (case aO => exact ((Kd.R_nil _ _ _ _ (fun _ => True)))); (case aS => exact (below_size (by repeat (first | (with_reducible first | exact HB.out | apply below_alloc | apply pw_below_drewN | apply below_drew1) | exact HB.out)))); (case aL => have := LMc10.out; omega); intro v388 w13 ho hb hg hat; rw [← Ny387.out] at ho; have n0_ := Aside0.mk (Kd.S_after (Kd.S_apart_nil (by (with_reducible repeat (first | apply Kd.S_alloc | apply Kd.S_drewN | apply Kd.S_drew)); exact HO_6.out)) hg hat); have n1_ := Aside0.mk (hb); have n2_ := Aside0.mk (ho); clear HO_6; clear HB; have HO_6 := n0_; have HB := n1_; have HO389 := n2_; clear n0_ n1_ n2_; clear ho hb hg hat; obtain ⟨Ao15, co15, eo15⟩ := Kd.R_slice HO389.out; subst eo15) | ((with_reducible refine gate_builtin (b := .append) (xs := #[.tmp 24, .tmp 30]) rfl ?_); at_builtin; refine Kd.S_append (Kd.slice 43 k43) (w0 := w) w.heap.size rfl (.tmp 24) (.tmp 30) 38 36 (.slice none 0 0) 24 rfl Try.underlying38 info36 rfl (by decide) (by omega) u6 x6_1 y387 [.slice Ao15 y387.length co15] (fun _ => True) (fun k_ => some k_ = (.slice Ao15 y387.length co15 : Value).ownBlock) rfl rfl ?aP (fun k_ hk_ => ((Kd.R_mono (ok' := fun k_ => ((fun _ => True)) k_ ∧ some k_ ≠ (u6 : Value).ownBlock) (Kd.R_apart' (HO389.out) (Kd.S_typed HO_6.out) (by decide)) (fun k_ hk => ⟨trivial, hk.2⟩))).1 k_ hk_.symm) ?aF ?aO ?aB ?aS ?aL ?_; (case aP => exact Kd.M_row (Kd.R_mono (Kd.R_tight rfl (Kd.R_mono (ok' := fun k_ => ((fun _ => True)) k_ ∧ some k_ ≠ (u6 : Value).ownBlock) (Kd.R_apart' (HO389.out) (Kd.S_typed HO_6.out) (by decide)) (fun k_ hk => ⟨trivial, hk.2⟩))) (fun _ h_ => h_))); (case aB => exact (by repeat (first | (with_reducible first | exact HB.out | apply below_alloc | apply pw_below_drewN | apply below_drew1) | exact HB.out))); (case aF => exact (fun _ _ => trivial)); (case aO => exact (by (with_reducible repeat (first | apply Kd.S_alloc | apply Kd.S_drewN | apply Kd.S_drew)); exact Kd.S_mono HO_6.out (fun k_ hk => ⟨trivial, fun e_ => hk.2 e_⟩))); (case aS => exact (below_size (by repeat (first | (with_reducible first | exact HB.out | apply below_alloc | apply pw_below_drewN | apply below_drew1) | exact HB.out)))); (case aL => have := LMc11.out; omega); intro v391 w14 ho hb hg hat; rw [← Ny390.out] at ho; have n0_ := Aside0.mk (hb); have n1_ := Aside0.mk (ho); clear HB; clear HO_6; clear HO389; have HB := n0_; have HO392 := n1_; clear n0_ n1_; clear ho hb hg hat))
                    go_roundg k1
                    case measure => have := HK1.out; omega
                    case rel => exact ⟨(y390), (t382), (by first | rfl | (simp; done) | (simp [*]; done)), H', ⟨by have := HK1.out; omega⟩, ⟨by (with_reducible repeat (first | apply Kd.S_alloc | apply Kd.S_drewN | apply Kd.S_drew)); exact HO392.out⟩, ⟨by repeat (first | (with_reducible first | exact HB.out | apply below_alloc | apply pw_below_drewN | apply below_drew1) | exact HB.out)⟩⟩
                  · rw [if_neg c11] at H
                    exact absurd H (by simp)
                · rw [if_neg c10] at H
                  exact absurd H (by simp)
              · rw [if_neg c9] at H
                exact absurd H (by simp)
            · rw [if_neg c8] at H
              exact absurd H (by simp)
          · rw [if_neg c7] at H
            exact absurd H (by simp)
        · rw [if_neg c5] at H
          have c5b0 : decide (x7_1 < (l0.length : Int)) = false := decide_eq_false c5
          clear c5
          simp only [Option.some.injEq, Prod.mk.injEq] at H
          obtain ⟨rfl, rfl⟩ := H
          go_wp2
          go_ret2
          exact ⟨_, by first | rfl | (simp [errW_none, errW_some] <;> rfl) | (simp [*, errW_none, errW_some] <;> rfl), by (with_reducible repeat (first | apply Kd.S_alloc | apply Kd.S_drewN | apply Kd.S_drew)); exact HO_6.out, by repeat (first | (with_reducible first | exact HB.out | apply below_alloc | apply pw_below_drewN | apply below_drew1) | exact HB.out)⟩
  · rw [if_neg c3] at H
    have c3b0 : (t381 == 0) = false := beq_eq_false_iff_ne.mpr c3
    have c3b1 : (t381 != 0) = true := bne_iff_ne.mpr c3
    simp only [Option.some.injEq, Prod.mk.injEq] at H
    obtain ⟨rfl, rfl⟩ := H
    go_enter Try.func26, Try.ntmps26
    go_wp2_with (first | ((with_reducible refine gate_callee (f := 32) rfl ?_); refine goesL_ (some 11) rfl rfl Try.func32 (by kernel_rfl) rfl #[.slice A0 l0.length c0] rfl (by (try simp only [List.map_toArray, List.map_cons, List.map_nil]); first | done | rfl | (simp only [List.length_drop, List.length_take]; rfl)) ?_; (with_reducible refine (tree_Check.calls k _ _ l0 t380 t381 _ ?side1 ?side2 A2.out).mono ?_); (case side1 => repeat (first | exact HR0.out | (with_reducible refine Kd.C_alloc ?_ _) | (with_reducible refine Kd.C_drewN ?_ _) | (with_reducible refine Kd.C_drew ?_))); (case side2 => exact HC0.out); rintro e w16 ⟨rfl, hb⟩; refine ⟨_, rfl, ?_⟩; have n0_ := Aside0.mk (below_step (by repeat (first | (with_reducible first | exact HB.out | apply below_alloc | apply pw_below_drewN | apply below_drew1) | exact HB.out)) hb); clear HB; have HB := n0_; clear n0_; (try clear hb); (try clear hb2); (try clear hk); (try clear hi)))
    go_ret2
    exact ⟨_, by first | rfl | (simp [errW_none, errW_some] <;> rfl) | (simp [*, errW_none, errW_some] <;> rfl), by first | exact Kd.S_nil _ _ _ _ _ | exact Kd.N_nil _ _ _ _ _ | exact Kd.V_nil _ _ _ _ _ | exact Kd.Q_nil _ _ _ _ _ | exact Kd.R_nil _ _ _ _ _, by repeat (first | (with_reducible first | exact HB.out | apply below_alloc | apply pw_below_drewN | apply below_drew1) | exact HB.out)⟩
end Go.Proofs.Ytlbchdalimngjaa.P
