-- PRINTED by print.py (a twelfth state) out of the translation. Not trusted: Lean checks it.
import Derived.Test.YtlbchdalimngjaaPx0
import Derived.Test.YtlbchdalimngjaaPx10
namespace Go.Proofs.Ytlbchdalimngjaa.P
open Go.RowKit Go.Proofs.YtlbchdalimngjaaW.PrintWords Go.Proofs.YtlbchdalimngjaaW.PrintLast Go.Proofs.YtlbchdalimngjaaW.PrintMore
attribute [local go_sem] max2_int min2_int max_two min_two max_three min_three max_four min_four   -- for this text's walks alone
set_option linter.unusedVariables false
set_option linter.unusedSimpArgs false

/-! ### tree_short: function 75 -/
def tree_short.f (a0 : ByteArray) : Option (Bool) := some (decide ((a0.size : Int) ≤ 4095))
set_option maxHeartbeats 8000000 in
set_option maxRecDepth 100000 in
theorem tree_short.calls (a0 : ByteArray) (r : Bool) (w : World) (h : tree_short.f a0 = some r) :
    Calls Try.prog 75 #[.string a0] w fun e w' => e = .returned (.bool r) ∧ Drawn0 w w' := by
  have H : (some (decide ((a0.size : Int) ≤ 4095))) = some r := h
  clear h
  obtain rfl := Option.some.inj H
  go_enter Try.func75, Try.ntmps75
  go_wp2
  go_ret
  exact ⟨by first | rfl | (simp; done) | (simp [*]; done), by repeat (first | exact Drawn0.refl _ | apply Drawn0.step)⟩

/-! ### tree_expr: function 76 -/
def tree_expr.f (k : Nat) (a0 : Int) (a1 : Int) (a2 : Int) : Option (Bool) := (tree_Expression.f k a2).bind fun t349 => (some t349)
theorem tree_expr.mono : ∀ a0 a1 a2 k, LeO (tree_expr.f k a0 a1 a2) (tree_expr.f (k + 1) a0 a1 a2) := by
  intro a0 a1 a2 k
  unfold tree_expr.f
  repeat' first
      | (with_reducible exact tree_Expression.mono _ _)
      | (with_reducible exact LeO.refl _)
      | (with_reducible exact LeO.none _)
      | (with_reducible refine LeO.ite ?_ ?_)
      | (with_reducible refine LeO.bind ?_ (fun _ => ?_))
      | exact tree_Expression.mono _ _
      | exact LeO.none _
      | refine LeO.ite ?_ ?_
      | refine LeO.bind ?_ (fun _ => ?_)
set_option maxHeartbeats 8000000 in
set_option maxRecDepth 100000 in
theorem tree_expr.calls (k : Nat) (a0 : Int) (a1 : Int) (a2 : Int) (r : Bool) (w : World) (h : tree_expr.f k a0 a1 a2 = some r) :
    Calls Try.prog 76 #[.int .i64 a0, .int .i64 a1, .int .u8 a2] w fun e w' => e = .returned (.bool r) ∧ Drawn0 w w' := by
  have H : ((tree_Expression.f k a2).bind fun t349 => (some t349)) = some r := h
  clear h
  replace H := Option.bind_eq_some_iff.mp H
  obtain ⟨t349, A40, H⟩ := H
  replace H : (some t349) = some r := H
  have A4 := Aside0.mk A40
  clear A40
  obtain rfl := Option.some.inj H
  go_enter Try.func76, Try.ntmps76
  go_wp2_with (first | ((with_reducible refine gate_callee (f := 16) rfl ?_); refine goesL_ (some 8) rfl rfl Try.func16 (by kernel_rfl) rfl #[.int .u8 a2] rfl (by (try simp only [List.map_toArray, List.map_cons, List.map_nil]); first | done | rfl | (simp only [List.length_drop, List.length_take]; rfl)) ?_; (with_reducible refine (tree_Expression.calls k a2 t349 _ A4.out).mono ?_); rintro e w' ⟨rfl, ⟨nd, rfl⟩⟩; refine ⟨_, rfl, ?_⟩))
  go_ret
  exact ⟨by first | rfl | (simp; done) | (simp [*]; done), by repeat (first | exact Drawn0.refl _ | apply Drawn0.step)⟩

/-! ### tree_block: function 77 -/
def tree_block.f (a0 : Int) (a1 : Int) (a2 : Int) : Option (Bool) := some (a2 == 3)
set_option maxHeartbeats 8000000 in
set_option maxRecDepth 100000 in
theorem tree_block.calls (a0 : Int) (a1 : Int) (a2 : Int) (r : Bool) (w : World) (h : tree_block.f a0 a1 a2 = some r) :
    Calls Try.prog 77 #[.int .i64 a0, .int .i64 a1, .int .u8 a2] w fun e w' => e = .returned (.bool r) ∧ Drawn0 w w' := by
  have H : (some (a2 == 3)) = some r := h
  clear h
  obtain rfl := Option.some.inj H
  go_enter Try.func77, Try.ntmps77
  go_wp2
  go_ret
  exact ⟨by first | rfl | (simp; done) | (simp [*]; done), by repeat (first | exact Drawn0.refl _ | apply Drawn0.step)⟩

end Go.Proofs.Ytlbchdalimngjaa.P
