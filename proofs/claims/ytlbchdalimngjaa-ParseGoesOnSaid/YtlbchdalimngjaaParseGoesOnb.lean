/- Parts of a proof, joined by a program: Proved here: the statement prompterlaw09.ParseGoesOn holds for every input that the row speaks of (no condition of mine). -/
import Derived.Test.YtlbchdalimngjaaProg
import Derived.Below
import Derived.Deep.Draws
import Derived.Deep.AppendLies
import Derived.Maps.AppendAt
import Derived.OwnWalk
import Derived.Laws.BytesArg
import Derived.Laws.MakeOwn
import Derived.Laws.OwnMore
import Derived.Deep.OwnRows
import Derived.Tactics
import Derived.Lib.ConvBytes
import Derived.Laws.Slices
import Derived.WalkKit
import Derived.KernelRfl
import Derived.RowKit3
import Derived.Deep.LoopGhost
import Derived.Deep.QuietTactic
import Derived.BigQuiet
import Derived.WideLaws
import Derived.Deep.DeepCutAuto
import Derived.Deep.CutBlock
import Derived.Deep.RegionHeld3
import Derived.Laws.Rows
import Derived.Lib.AppendStr
import Derived.ArgAppend
import Derived.Laws.IdiomCopy
import Derived.OrdersHeld
import Derived.Laws.BitsLemmas
import Derived.RowKit
import Derived.WalkLawsBesides
import Derived.Deep.RegionHeld2
import Derived.Test.YtlbchdalimngjaaParseGoesOna
namespace Go.Proofs.Ytlbchdalimngjaa.P
open Go.RowKit Go.Proofs.YtlbchdalimngjaaW.PrintWords Go.Proofs.YtlbchdalimngjaaW.PrintLast Go.Proofs.YtlbchdalimngjaaW.PrintMore
attribute [local go_sem] max2_int min2_int max_two min_two max_three min_three max_four min_four
set_option linter.unusedVariables false
set_option linter.unusedSimpArgs false
def errW : Option Int → Value
  | none => .nilIface
  | some c => .iface 0 (.int .i64 c)
theorem errW_none : errW none = .nilIface := rfl
theorem errW_some (c : Int) : errW (some c) = .iface 0 (.int .i64 c) := rfl
theorem info5 : (Try.prog.info? 5).map (fun i => (i.zero, i.size, i.bytes)) = some (some (.int .u8 0), 1, 1) := by kernel_rfl
theorem info33 : (Try.prog.info? 33).map (fun i => (i.zero, i.size, i.bytes)) = some (some (.agg #[(.int .u8 0), (.string ⟨#[]⟩), (.int .i64 0), (.int .i64 0)]), 4, 40) := by kernel_rfl
theorem info36 : (Try.prog.info? 36).map (fun i => (i.zero, i.size, i.bytes)) = some (some (.slice none 0 0), 1, 24) := by kernel_rfl
theorem info43 : (Try.prog.info? 43).map (fun i => (i.zero, i.size, i.bytes)) = some (some (.agg #[(.int .u8 0), (.int .i64 0), (.int .i64 0), (.string ⟨#[]⟩)]), 4, 40) := by kernel_rfl
structure S33 where
  f0 : Int
  f1 : ByteArray
  f2 : Int
  f3 : Int
def z33 : S33 := ⟨(0 : Int), (⟨#[]⟩ : ByteArray), (0 : Int), (0 : Int)⟩
def k33 : Kd S33 := Kd.iso (Kd.pair (Kd.int .u8) (Kd.pair Kd.string (Kd.pair (Kd.int .i64) (Kd.int .i64)))) (fun x : S33 => (x.f0, x.f1, x.f2, x.f3))
theorem k33_open {w : World} {x : S33} {cs : List Value} (h : k33.K w x cs) : cs = [.int .u8 x.f0, .string x.f1, .int .i64 x.f2, .int .i64 x.f3] := by
  obtain ⟨_, _, rfl, rfl, ⟨_, _, rfl, rfl, ⟨_, _, rfl, rfl, rfl⟩⟩⟩ := h
  exact rfl
theorem k33_mkM (w : World) (base : Nat) (ok : Nat → Prop) (x : S33)  : k33.M w base ok x [.int .u8 x.f0, .string x.f1, .int .i64 x.f2, .int .i64 x.f3] := ⟨[.int .u8 x.f0], [.string x.f1, .int .i64 x.f2, .int .i64 x.f3], rfl, rfl, ⟨[.string x.f1], [.int .i64 x.f2, .int .i64 x.f3], rfl, rfl, ⟨[.int .i64 x.f2], [.int .i64 x.f3], rfl, rfl, rfl⟩⟩⟩
def rd_T33 (xs : List S33) (i : Int) : S33 := xs.getD i.toNat z33
theorem at_T33 {w : World} {A : Option Addr} {n : Nat} {xs : List S33} (h : Kd.C k33 w A n xs) (i : Int) (h0 : 0 ≤ i) (h1 : i < n) : ∃ ad , A = some ad ∧ w.cell? (ad.add (i.toNat * 4)) = some (.int .u8 (rd_T33 xs i).f0) ∧ w.cell? ⟨(ad.add (i.toNat * 4)).block, (ad.add (i.toNat * 4)).off + 1, none⟩ = some (.string (rd_T33 xs i).f1) ∧ w.cell? ⟨(ad.add (i.toNat * 4)).block, (ad.add (i.toNat * 4)).off + 2, none⟩ = some (.int .i64 (rd_T33 xs i).f2) ∧ w.cell? ⟨(ad.add (i.toNat * 4)).block, (ad.add (i.toNat * 4)).off + 3, none⟩ = some (.int .i64 (rd_T33 xs i).f3) := by
  obtain ⟨ad, c, e, _, hK, hc0⟩ := Kd.C_get h z33 i h0 h1
  have hc : ∀ j u, c[j]? = some u → w.cell? (ad.add (i.toNat * 4 + j)) = some u := hc0
  obtain rfl := k33_open hK
  exact ⟨ad, e, hc 0 _ rfl, by rw [← add_field _ _ 1 (by omega)]; exact hc 1 _ rfl, by rw [← add_field _ _ 2 (by omega)]; exact hc 2 _ rfl, by rw [← add_field _ _ 3 (by omega)]; exact hc 3 _ rfl⟩
structure S43 where
  f0 : Int
  f1 : Int
  f2 : Int
  f3 : ByteArray
def z43 : S43 := ⟨(0 : Int), (0 : Int), (0 : Int), (⟨#[]⟩ : ByteArray)⟩
def k43 : Kd S43 := Kd.iso (Kd.pair (Kd.int .u8) (Kd.pair (Kd.int .i64) (Kd.pair (Kd.int .i64) Kd.string))) (fun x : S43 => (x.f0, x.f1, x.f2, x.f3))
theorem k43_open {w : World} {x : S43} {cs : List Value} (h : k43.K w x cs) : cs = [.int .u8 x.f0, .int .i64 x.f1, .int .i64 x.f2, .string x.f3] := by
  obtain ⟨_, _, rfl, rfl, ⟨_, _, rfl, rfl, ⟨_, _, rfl, rfl, rfl⟩⟩⟩ := h
  exact rfl
theorem k43_mkM (w : World) (base : Nat) (ok : Nat → Prop) (x : S43)  : k43.M w base ok x [.int .u8 x.f0, .int .i64 x.f1, .int .i64 x.f2, .string x.f3] := ⟨[.int .u8 x.f0], [.int .i64 x.f1, .int .i64 x.f2, .string x.f3], rfl, rfl, ⟨[.int .i64 x.f1], [.int .i64 x.f2, .string x.f3], rfl, rfl, ⟨[.int .i64 x.f2], [.string x.f3], rfl, rfl, rfl⟩⟩⟩
def rd_T43 (xs : List S43) (i : Int) : S43 := xs.getD i.toNat z43
theorem at_T43 {w : World} {A : Option Addr} {n : Nat} {xs : List S43} (h : Kd.C k43 w A n xs) (i : Int) (h0 : 0 ≤ i) (h1 : i < n) : ∃ ad , A = some ad ∧ w.cell? (ad.add (i.toNat * 4)) = some (.int .u8 (rd_T43 xs i).f0) ∧ w.cell? ⟨(ad.add (i.toNat * 4)).block, (ad.add (i.toNat * 4)).off + 1, none⟩ = some (.int .i64 (rd_T43 xs i).f1) ∧ w.cell? ⟨(ad.add (i.toNat * 4)).block, (ad.add (i.toNat * 4)).off + 2, none⟩ = some (.int .i64 (rd_T43 xs i).f2) ∧ w.cell? ⟨(ad.add (i.toNat * 4)).block, (ad.add (i.toNat * 4)).off + 3, none⟩ = some (.string (rd_T43 xs i).f3) := by
  obtain ⟨ad, c, e, _, hK, hc0⟩ := Kd.C_get h z43 i h0 h1
  have hc : ∀ j u, c[j]? = some u → w.cell? (ad.add (i.toNat * 4 + j)) = some u := hc0
  obtain rfl := k43_open hK
  exact ⟨ad, e, hc 0 _ rfl, by rw [← add_field _ _ 1 (by omega)]; exact hc 1 _ rfl, by rw [← add_field _ _ 2 (by omega)]; exact hc 2 _ rfl, by rw [← add_field _ _ 3 (by omega)]; exact hc 3 _ rfl⟩
def rd_L6 (xs : List (List S43)) (i : Int) : (List S43) := xs.getD i.toNat ([] : List S43)
theorem at_L6 {w : World} {A : Option Addr} {n : Nat} {xs : List (List S43)} (h : Kd.C (Kd.slice 43 k43) w A n xs) (i : Int) (h0 : 0 ≤ i) (h1 : i < n) : ∃ ad A0 c0, A = some ad ∧ w.cell? (ad.add i.toNat) = some (.slice A0 (rd_L6 xs i).length c0) ∧ (rd_L6 xs i).length ≤ c0 ∧ k43.C w A0 (rd_L6 xs i).length (rd_L6 xs i) := by
  obtain ⟨ad, c, e, _, hK, hc0⟩ := Kd.C_get h ([] : List S43) i h0 h1
  have hc : ∀ j u, c[j]? = some u → w.cell? (ad.add (i.toNat * 1 + j)) = some u := hc0
  obtain ⟨A0, c0, rfl, l0, g0⟩ := hK
  exact ⟨ad, A0, c0, e, by have hq := hc 0 _ rfl; rwa [Nat.mul_one, Nat.add_zero] at hq, l0, g0⟩
structure S85 where
  f0 : Int
  f1 : Int
  f2 : Int
def z85 : S85 := ⟨(0 : Int), (0 : Int), (0 : Int)⟩
def rd_T85 (xs : List S85) (i : Int) : S85 := xs.getD i.toNat z85
end Go.Proofs.Ytlbchdalimngjaa.P
namespace Go.Proofs.Ytlbchdalimngjaa.P
open Go.RowKit Go.Proofs.YtlbchdalimngjaaW.PrintWords Go.Proofs.YtlbchdalimngjaaW.PrintLast Go.Proofs.YtlbchdalimngjaaW.PrintMore
attribute [local go_sem] max2_int min2_int max_two min_two max_three min_three max_four min_four
set_option linter.unusedVariables false
set_option linter.unusedSimpArgs false
theorem eqA43 (d : Nat) (w : World) (x0 y0 : Int) (x1 y1 : Int) (x2 y2 : Int) (x3 y3 : ByteArray) :
    (Op.equalIn (d + 2) 43 (.agg #[.int .u8 x0, .int .i64 x1, .int .i64 x2, .string x3]) (.agg #[.int .u8 y0, .int .i64 y1, .int .i64 y2, .string y3])).run Try.prog w = .ok (x0 == y0 && (x1 == y1 && (x2 == y2 && (x3.toList == y3.toList)))) w := by
  refine eqA_of Try.underlying43 (by kernel_rfl) ?_
  refine eqf_cons (by rfl) (by go_simp; rfl) (by go_simp; rfl) (by go_simp) ?_
  refine eqf_cons (by rfl) (by go_simp; rfl) (by go_simp; rfl) (by go_simp) ?_
  refine eqf_cons (by rfl) (by go_simp; rfl) (by go_simp; rfl) (by go_simp) ?_
  exact eqf_last (by rfl) (by go_simp; rfl) (by go_simp; rfl) (by go_simp)
end Go.Proofs.Ytlbchdalimngjaa.P
namespace Go.Proofs.Ytlbchdalimngjaa.P
open Go.RowKit Go.Proofs.YtlbchdalimngjaaW.PrintWords Go.Proofs.YtlbchdalimngjaaW.PrintLast Go.Proofs.YtlbchdalimngjaaW.PrintMore
attribute [local go_sem] max2_int min2_int max_two min_two max_three min_three max_four min_four
set_option linter.unusedVariables false
set_option linter.unusedSimpArgs false
mutual
def tree_Expression.j0 : Nat → Int → Bool → Option (Bool)
  | 0, _, _ => none
  | k + 1, x0, x3 => if x3 = true then (some true) else (if x0 ≥ 30 then (tree_Expression.j1 k x0 (decide (x0 ≤ 48))) else (tree_Expression.j1 k x0 false))
def tree_Expression.j1 : Nat → Int → Bool → Option (Bool)
  | 0, _, _ => none
  | k + 1, x0, x3 => if x3 = true then (some true) else (if x0 ≥ 50 then (if x0 ≤ 57 then (some true) else (some false)) else (some false))
end
def tree_Expression.f (k : Nat) (a0 : Int) : Option (Bool) := if a0 ≥ 20 then (tree_Expression.j0 k a0 (decide (a0 ≤ 26))) else (tree_Expression.j0 k a0 false)
theorem tree_Expression.mono_l : ∀ k, (∀ y0 y1, LeO (tree_Expression.j0 k y0 y1) (tree_Expression.j0 (k + 1) y0 y1)) ∧ (∀ y0 y1, LeO (tree_Expression.j1 k y0 y1) (tree_Expression.j1 (k + 1) y0 y1))
  | 0 => ⟨fun _ _ r h => by simp [tree_Expression.j0] at h, fun _ _ r h => by simp [tree_Expression.j1] at h⟩
  | k + 1 => by
    obtain ⟨ih0, ih1⟩ := tree_Expression.mono_l k
    refine ⟨?_, ?_⟩
    · intro y0 y1
      unfold tree_Expression.j0
      repeat' first
      | (with_reducible exact ih0 _ _)
      | (with_reducible exact ih1 _ _)
      | (with_reducible exact LeO.refl _)
      | (with_reducible exact LeO.none _)
      | (with_reducible refine LeO.ite ?_ ?_)
      | (with_reducible refine LeO.bind ?_ (fun _ => ?_))
      | exact ih0 _ _
      | exact ih1 _ _
      | exact LeO.none _
      | refine LeO.ite ?_ ?_
      | refine LeO.bind ?_ (fun _ => ?_)
    · intro y0 y1
      unfold tree_Expression.j1
      repeat' first
      | (with_reducible exact ih0 _ _)
      | (with_reducible exact ih1 _ _)
      | (with_reducible exact LeO.refl _)
      | (with_reducible exact LeO.none _)
      | (with_reducible refine LeO.ite ?_ ?_)
      | (with_reducible refine LeO.bind ?_ (fun _ => ?_))
      | exact ih0 _ _
      | exact ih1 _ _
      | exact LeO.none _
      | refine LeO.ite ?_ ?_
      | refine LeO.bind ?_ (fun _ => ?_)
theorem tree_Expression.mono : ∀ a0 k, LeO (tree_Expression.f k a0) (tree_Expression.f (k + 1) a0) := by
  intro a0 k
  obtain ⟨ih0, ih1⟩ := tree_Expression.mono_l k
  unfold tree_Expression.f
  repeat' first
      | (with_reducible exact ih0 _ _)
      | (with_reducible exact ih1 _ _)
      | (with_reducible exact LeO.refl _)
      | (with_reducible exact LeO.none _)
      | (with_reducible refine LeO.ite ?_ ?_)
      | (with_reducible refine LeO.bind ?_ (fun _ => ?_))
      | exact ih0 _ _
      | exact ih1 _ _
      | exact LeO.none _
      | refine LeO.ite ?_ ?_
      | refine LeO.bind ?_ (fun _ => ?_)
set_option maxHeartbeats 8000000 in
set_option maxRecDepth 100000 in
theorem tree_Expression.calls (k : Nat) (a0 : Int) (r : Bool) (w : World) (h : tree_Expression.f k a0 = some r) :
    Calls Try.prog 16 #[.int .u8 a0] w fun e w' => e = .returned (.bool r) ∧ Drawn0 w w' := by
  have H : (if a0 ≥ 20 then (tree_Expression.j0 k a0 (decide (a0 ≤ 26))) else (tree_Expression.j0 k a0 false)) = some r := h
  clear h
  have HC2 := Aside0.mk H
  clear H
  go_enter Try.func16, Try.ntmps16
  go_upto_region 1 with (fail)
  go_cut [3] (fun v3 wc => ∃ (kq : Nat) (x3_1 : Bool), v3 = .bool x3_1 ∧ Aside0 (tree_Expression.j0 kq a0 x3_1 = some r) ∧ Aside0 (kq ≤ k) ∧ Drawn0 w wc)
  case first =>
    have H := HC2.out
    clear HC2
    by_cases c3 : a0 ≥ 20
    · rw [if_pos c3] at H
      have c3b0 : decide (20 ≤ a0) = true := decide_eq_true c3
      clear c3
      (first | rw [c3b0] | (simp only [i64_w, i32_w]; rw [c3b0]) | rw [c3b1] | skip)
      have H' := Aside0.mk H
      clear H
      go_wp2
      go_meet
      case rel => exact ⟨_, (decide (a0 ≤ 26)), (by first | rfl | (simp; done) | (simp [*]; done)), H', ⟨by first | omega | exact Nat.le_refl _⟩, by repeat (first | exact Drawn0.refl _ | apply Drawn0.step)⟩
    · rw [if_neg c3] at H
      have c3b0 : decide (20 ≤ a0) = false := decide_eq_false c3
      clear c3
      (first | rw [c3b0] | (simp only [i64_w, i32_w]; rw [c3b0]) | rw [c3b1] | skip)
      have H' := Aside0.mk H
      clear H
      go_wp2
      go_meet
      case rel => exact ⟨_, (false), (by first | rfl | (simp; done) | (simp [*]; done)), H', ⟨by first | omega | exact Nat.le_refl _⟩, by repeat (first | exact Drawn0.refl _ | apply Drawn0.step)⟩
  case rest =>
    clear HC2
    try clear c1
    try clear p2
    try clear c3
    try clear c3b0
    obtain ⟨kq, x3_1, rfl, HA, HJ1, ⟨mc1, rfl⟩⟩ := hcut
    cases kq with
    | zero => exact absurd HA.out (by simp [tree_Expression.j0])
    | succ kj1 =>
      have H := HA.out
      clear HA
      simp only [tree_Expression.j0] at H
      by_cases c4 : x3_1 = true
      · subst c4
        have H1 : (some true) = some r := by rw [if_pos rfl] at H; exact H
        clear H
        have H := H1
        clear H1
        obtain rfl := Option.some.inj H
        go_wp2
        go_ret
        exact ⟨by first | rfl | (simp; done) | (simp [*]; done), by repeat (first | exact Drawn0.refl _ | apply Drawn0.step)⟩
      · replace c4 := Bool.eq_false_iff.mpr c4
        subst c4
        have H1 : (if a0 ≥ 30 then (tree_Expression.j1 kj1 a0 (decide (a0 ≤ 48))) else (tree_Expression.j1 kj1 a0 false)) = some r := by rw [if_neg (show ¬ (false = true) by decide)] at H; exact H
        clear H
        have H := H1
        clear H1
        have HC5 := Aside0.mk H
        clear H
        go_upto_region 2 with (fail)
        go_cut [3] (fun v3 wc => ∃ (kq : Nat) (x3_4 : Bool), v3 = .bool x3_4 ∧ Aside0 (tree_Expression.j1 kq a0 x3_4 = some r) ∧ Aside0 (kq ≤ kj1) ∧ Drawn0 w wc)
        case first =>
          have H := HC5.out
          clear HC5
          by_cases c6 : a0 ≥ 30
          · rw [if_pos c6] at H
            have c6b0 : decide (30 ≤ a0) = true := decide_eq_true c6
            clear c6
            (first | rw [c6b0] | (simp only [i64_w, i32_w]; rw [c6b0]) | rw [c6b1] | skip)
            have H' := Aside0.mk H
            clear H
            go_wp2
            go_meet
            case rel => exact ⟨_, (decide (a0 ≤ 48)), (by first | rfl | (simp; done) | (simp [*]; done)), H', ⟨by have := HJ1.out; first | omega | exact Nat.le_refl _⟩, by repeat (first | exact Drawn0.refl _ | apply Drawn0.step)⟩
          · rw [if_neg c6] at H
            have c6b0 : decide (30 ≤ a0) = false := decide_eq_false c6
            clear c6
            (first | rw [c6b0] | (simp only [i64_w, i32_w]; rw [c6b0]) | rw [c6b1] | skip)
            have H' := Aside0.mk H
            clear H
            go_wp2
            go_meet
            case rel => exact ⟨_, (false), (by first | rfl | (simp; done) | (simp [*]; done)), H', ⟨by have := HJ1.out; first | omega | exact Nat.le_refl _⟩, by repeat (first | exact Drawn0.refl _ | apply Drawn0.step)⟩
        case rest =>
          clear HC5
          try clear c1
          try clear p2
          try clear c3
          try clear c3b0
          try clear c4
          try clear c6
          try clear c6b0
          try clear p2
          obtain ⟨kq, x3_4, rfl, HA, HJ4, ⟨mc4, rfl⟩⟩ := hcut
          cases kq with
          | zero => exact absurd HA.out (by simp [tree_Expression.j1])
          | succ kj4 =>
            have H := HA.out
            clear HA
            simp only [tree_Expression.j1] at H
            by_cases c7 : x3_4 = true
            · subst c7
              have H1 : (some true) = some r := by rw [if_pos rfl] at H; exact H
              clear H
              have H := H1
              clear H1
              obtain rfl := Option.some.inj H
              go_wp2
              go_ret
              exact ⟨by first | rfl | (simp; done) | (simp [*]; done), by repeat (first | exact Drawn0.refl _ | apply Drawn0.step)⟩
            · replace c7 := Bool.eq_false_iff.mpr c7
              subst c7
              have H1 : (if a0 ≥ 50 then (if a0 ≤ 57 then (some true) else (some false)) else (some false)) = some r := by rw [if_neg (show ¬ (false = true) by decide)] at H; exact H
              clear H
              have H := H1
              clear H1
              by_cases c8 : a0 ≥ 50
              · rw [if_pos c8] at H
                have c8b0 : decide (50 ≤ a0) = true := decide_eq_true c8
                clear c8
                by_cases c9 : a0 ≤ 57
                · rw [if_pos c9] at H
                  have c9b0 : decide (a0 ≤ 57) = true := decide_eq_true c9
                  clear c9
                  obtain rfl := Option.some.inj H
                  go_wp2
                  go_ret
                  exact ⟨by first | rfl | (simp; done) | (simp [*]; done), by repeat (first | exact Drawn0.refl _ | apply Drawn0.step)⟩
                · rw [if_neg c9] at H
                  have c9b0 : decide (a0 ≤ 57) = false := decide_eq_false c9
                  clear c9
                  obtain rfl := Option.some.inj H
                  go_wp2
                  go_ret
                  exact ⟨by first | rfl | (simp; done) | (simp [*]; done), by repeat (first | exact Drawn0.refl _ | apply Drawn0.step)⟩
              · rw [if_neg c8] at H
                have c8b0 : decide (50 ≤ a0) = false := decide_eq_false c8
                clear c8
                obtain rfl := Option.some.inj H
                go_wp2
                go_ret
                exact ⟨by first | rfl | (simp; done) | (simp [*]; done), by repeat (first | exact Drawn0.refl _ | apply Drawn0.step)⟩
def prompterref08_Expression.f (a0 : Int) : Option (Bool) := if a0 ≥ 20 then (if a0 ≤ 26 then (some true) else (if a0 ≥ 30 then (if a0 ≤ 48 then (some true) else (if a0 ≥ 50 then (some (decide (a0 ≤ 57))) else (some false))) else (if a0 ≥ 50 then (some (decide (a0 ≤ 57))) else (some false)))) else (if a0 ≥ 30 then (if a0 ≤ 48 then (some true) else (if a0 ≥ 50 then (some (decide (a0 ≤ 57))) else (some false))) else (if a0 ≥ 50 then (some (decide (a0 ≤ 57))) else (some false)))
def tree_Statement.f (a0 : Int) : Option (Bool) := if a0 ≥ 4 then (some (decide (a0 ≤ 11))) else (some false)
set_option maxHeartbeats 8000000 in
set_option maxRecDepth 100000 in
theorem tree_Statement.calls (a0 : Int) (r : Bool) (w : World) (h : tree_Statement.f a0 = some r) :
    Calls Try.prog 18 #[.int .u8 a0] w fun e w' => e = .returned (.bool r) ∧ Drawn0 w w' := by
  have H : (if a0 ≥ 4 then (some (decide (a0 ≤ 11))) else (some false)) = some r := h
  clear h
  by_cases c2 : a0 ≥ 4
  · rw [if_pos c2] at H
    have c2b0 : decide (4 ≤ a0) = true := decide_eq_true c2
    clear c2
    obtain rfl := Option.some.inj H
    go_enter Try.func18, Try.ntmps18
    go_wp2
    go_ret
    exact ⟨by first | rfl | (simp; done) | (simp [*]; done), by repeat (first | exact Drawn0.refl _ | apply Drawn0.step)⟩
  · rw [if_neg c2] at H
    have c2b0 : decide (4 ≤ a0) = false := decide_eq_false c2
    clear c2
    obtain rfl := Option.some.inj H
    go_enter Try.func18, Try.ntmps18
    go_wp2
    go_ret
    exact ⟨by first | rfl | (simp; done) | (simp [*]; done), by repeat (first | exact Drawn0.refl _ | apply Drawn0.step)⟩
def prompterref08_Statement.f (a0 : Int) : Option (Bool) := if a0 ≥ 4 then (some (decide (a0 ≤ 11))) else (some false)
end Go.Proofs.Ytlbchdalimngjaa.P
namespace Go.Proofs.Ytlbchdalimngjaa.P
open Go.RowKit Go.Proofs.YtlbchdalimngjaaW.PrintWords Go.Proofs.YtlbchdalimngjaaW.PrintLast Go.Proofs.YtlbchdalimngjaaW.PrintMore
attribute [local go_sem] max2_int min2_int max_two min_two max_three min_three max_four min_four
set_option linter.unusedVariables false
set_option linter.unusedSimpArgs false
def prompterref08_named.f (a0 : Int) : Option (Bool) := if a0 = 1 then (some true) else (if a0 = 2 then (some true) else (if a0 = 4 then (some true) else (if a0 = 5 then (some true) else (if a0 = 26 then (some true) else (if a0 = 56 then (some true) else (if a0 = 50 then (some true) else (some (a0 == 51))))))))
def prompterref07_Words.f  : Option (List ByteArray) := some (([(⟨#[102, 108, 111, 119]⟩ : ByteArray), (⟨#[108, 101, 116]⟩ : ByteArray), (⟨#[105, 102]⟩ : ByteArray), (⟨#[101, 108, 115, 101]⟩ : ByteArray), (⟨#[119, 104, 105, 108, 101]⟩ : ByteArray), (⟨#[114, 101, 116, 117, 114, 110]⟩ : ByteArray), (⟨#[102, 97, 105, 108]⟩ : ByteArray), (⟨#[115, 108, 101, 101, 112]⟩ : ByteArray), (⟨#[100, 111]⟩ : ByteArray), (⟨#[110, 111, 110, 101]⟩ : ByteArray), (⟨#[116, 114, 117, 101]⟩ : ByteArray), (⟨#[102, 97, 108, 115, 101]⟩ : ByteArray), (⟨#[111, 114]⟩ : ByteArray), (⟨#[97, 110, 100]⟩ : ByteArray), (⟨#[110, 111, 116]⟩ : ByteArray), (⟨#[108, 101, 110]⟩ : ByteArray), (⟨#[110, 117, 109]⟩ : ByteArray), (⟨#[114, 101]⟩ : ByteArray), (⟨#[105, 109]⟩ : ByteArray), (⟨#[99, 111, 110, 106]⟩ : ByteArray), (⟨#[99, 97, 108, 108]⟩ : ByteArray), (⟨#[99, 104, 105, 108, 100]⟩ : ByteArray), (⟨#[116, 105, 109, 101, 114]⟩ : ByteArray), (⟨#[102, 111, 114, 107]⟩ : ByteArray), (⟨#[97, 119, 97, 105, 116]⟩ : ByteArray), (⟨#[115, 101, 116, 116, 108, 101]⟩ : ByteArray), (⟨#[116, 97, 107, 101]⟩ : ByteArray), (⟨#[118, 101, 114, 115, 105, 111, 110]⟩ : ByteArray)] : List ByteArray))
end Go.Proofs.Ytlbchdalimngjaa.P
namespace Go.Proofs.Ytlbchdalimngjaa.P
open Go.RowKit Go.Proofs.YtlbchdalimngjaaW.PrintWords Go.Proofs.YtlbchdalimngjaaW.PrintLast Go.Proofs.YtlbchdalimngjaaW.PrintMore
attribute [local go_sem] max2_int min2_int max_two min_two max_three min_three max_four min_four
set_option linter.unusedVariables false
set_option linter.unusedSimpArgs false
def prompterref07_Among.l0 : Nat → List ByteArray → ByteArray → Int → Option (Bool)
  | 0, _, _, _ => none
  | k + 1, x0, x1, x5 => if x5 < (x0.length : Int) then (if 0 ≤ x5 then (if (rdOf ByteArray.empty x0 x5).toList = x1.toList then (some true) else (prompterref07_Among.l0 k x0 x1 (wrap64 (x5 + 1)))) else (none)) else (some false)
def prompterref07_Among.f (k : Nat) (l0 : List ByteArray) (a1 : ByteArray) : Option (Bool) := prompterref07_Among.l0 k l0 a1 0
theorem prompterref07_Among.mono_l : ∀ k, (∀ y0 y1 y2, LeO (prompterref07_Among.l0 k y0 y1 y2) (prompterref07_Among.l0 (k + 1) y0 y1 y2))
  | 0 => fun _ _ _ r h => by simp [prompterref07_Among.l0] at h
  | k + 1 => by
    have ih0 := prompterref07_Among.mono_l k
    · intro y0 y1 y2
      unfold prompterref07_Among.l0
      repeat' first
      | (with_reducible exact ih0 _ _ _)
      | (with_reducible exact LeO.refl _)
      | (with_reducible exact LeO.none _)
      | (with_reducible refine LeO.ite ?_ ?_)
      | (with_reducible refine LeO.bind ?_ (fun _ => ?_))
      | exact ih0 _ _ _
      | exact LeO.none _
      | refine LeO.ite ?_ ?_
      | refine LeO.bind ?_ (fun _ => ?_)
theorem prompterref07_Among.mono : ∀ a0 a1 k, LeO (prompterref07_Among.f k a0 a1) (prompterref07_Among.f (k + 1) a0 a1) := by
  intro a0 a1 k
  have ih0 := prompterref07_Among.mono_l k
  unfold prompterref07_Among.f
  repeat' first
      | (with_reducible exact ih0 _ _ _)
      | (with_reducible exact LeO.refl _)
      | (with_reducible exact LeO.none _)
      | (with_reducible refine LeO.ite ?_ ?_)
      | (with_reducible refine LeO.bind ?_ (fun _ => ?_))
      | exact ih0 _ _ _
      | exact LeO.none _
      | refine LeO.ite ?_ ?_
      | refine LeO.bind ?_ (fun _ => ?_)
def prompterref07_Keyword.f (k : Nat) (a0 : ByteArray) : Option (Bool) := (prompterref07_Words.f).bind fun t397 => ((prompterref07_Among.f k t397 a0).bind fun t400 => (some t400))
theorem prompterref07_Keyword.mono : ∀ a0 k, LeO (prompterref07_Keyword.f k a0) (prompterref07_Keyword.f (k + 1) a0) := by
  intro a0 k
  unfold prompterref07_Keyword.f
  repeat' first
      | (with_reducible exact prompterref07_Among.mono _ _ _)
      | (with_reducible exact LeO.refl _)
      | (with_reducible exact LeO.none _)
      | (with_reducible refine LeO.ite ?_ ?_)
      | (with_reducible refine LeO.bind ?_ (fun _ => ?_))
      | exact prompterref07_Among.mono _ _ _
      | exact LeO.none _
      | refine LeO.ite ?_ ?_
      | refine LeO.bind ?_ (fun _ => ?_)
end Go.Proofs.Ytlbchdalimngjaa.P
namespace Go.Proofs.Ytlbchdalimngjaa.P
open Go.RowKit Go.Proofs.YtlbchdalimngjaaW.PrintWords Go.Proofs.YtlbchdalimngjaaW.PrintLast Go.Proofs.YtlbchdalimngjaaW.PrintMore
attribute [local go_sem] max2_int min2_int max_two min_two max_three min_three max_four min_four
set_option linter.unusedVariables false
set_option linter.unusedSimpArgs false
mutual
def prompterref04_Name.j0 : Nat → ByteArray → Bool → Option (Bool)
  | 0, _, _ => none
  | k + 1, x0, x13 => if x13 = true then (some false) else (prompterref04_Name.l0 k x0 0)
def prompterref04_Name.l0 : Nat → ByteArray → Int → Option (Bool)
  | 0, _, _ => none
  | k + 1, x0, x3 => if x3 < (x0.size : Int) then (if 0 ≤ x3 then (if (bt x0 x3) ≥ 97 then (if (bt x0 x3) ≥ 48 then (if (bt x0 x3) ≤ 57 then (if ((bt x0 x3) ≤ 122) then (prompterref04_Name.l0 k x0 (wrap64 (x3 + 1))) else (if x3 = 0 then (some false) else (prompterref04_Name.l0 k x0 (wrap64 (x3 + 1))))) else (if ((bt x0 x3) ≤ 122) then (prompterref04_Name.l0 k x0 (wrap64 (x3 + 1))) else (if x3 = 0 then (some false) else (if ((bt x0 x3) = 95) then (prompterref04_Name.l0 k x0 (wrap64 (x3 + 1))) else (some false))))) else (if ((bt x0 x3) ≤ 122) then (prompterref04_Name.l0 k x0 (wrap64 (x3 + 1))) else (if x3 = 0 then (some false) else (if ((bt x0 x3) = 95) then (prompterref04_Name.l0 k x0 (wrap64 (x3 + 1))) else (some false))))) else (if (bt x0 x3) ≥ 48 then (if (bt x0 x3) ≤ 57 then (if x3 = 0 then (some false) else (prompterref04_Name.l0 k x0 (wrap64 (x3 + 1)))) else (if x3 = 0 then (some false) else (if ((bt x0 x3) = 95) then (prompterref04_Name.l0 k x0 (wrap64 (x3 + 1))) else (some false)))) else (if x3 = 0 then (some false) else (if ((bt x0 x3) = 95) then (prompterref04_Name.l0 k x0 (wrap64 (x3 + 1))) else (some false))))) else (none)) else (some true)
end
def prompterref04_Name.f (k : Nat) (a0 : ByteArray) : Option (Bool) := if (a0.size : Int) < 1 then (prompterref04_Name.j0 k a0 true) else (prompterref04_Name.j0 k a0 (decide ((a0.size : Int) > 24)))
theorem prompterref04_Name.mono_l : ∀ k, (∀ y0 y1, LeO (prompterref04_Name.j0 k y0 y1) (prompterref04_Name.j0 (k + 1) y0 y1)) ∧ (∀ y0 y1, LeO (prompterref04_Name.l0 k y0 y1) (prompterref04_Name.l0 (k + 1) y0 y1))
  | 0 => ⟨fun _ _ r h => by simp [prompterref04_Name.j0] at h, fun _ _ r h => by simp [prompterref04_Name.l0] at h⟩
  | k + 1 => by
    obtain ⟨ih0, ih1⟩ := prompterref04_Name.mono_l k
    refine ⟨?_, ?_⟩
    · intro y0 y1
      unfold prompterref04_Name.j0
      repeat' first
      | (with_reducible exact ih0 _ _)
      | (with_reducible exact ih1 _ _)
      | (with_reducible exact LeO.refl _)
      | (with_reducible exact LeO.none _)
      | (with_reducible refine LeO.ite ?_ ?_)
      | (with_reducible refine LeO.bind ?_ (fun _ => ?_))
      | exact ih0 _ _
      | exact ih1 _ _
      | exact LeO.none _
      | refine LeO.ite ?_ ?_
      | refine LeO.bind ?_ (fun _ => ?_)
    · intro y0 y1
      unfold prompterref04_Name.l0
      repeat' first
      | (with_reducible exact ih0 _ _)
      | (with_reducible exact ih1 _ _)
      | (with_reducible exact LeO.refl _)
      | (with_reducible exact LeO.none _)
      | (with_reducible refine LeO.ite ?_ ?_)
      | (with_reducible refine LeO.bind ?_ (fun _ => ?_))
      | exact ih0 _ _
      | exact ih1 _ _
      | exact LeO.none _
      | refine LeO.ite ?_ ?_
      | refine LeO.bind ?_ (fun _ => ?_)
theorem prompterref04_Name.mono : ∀ a0 k, LeO (prompterref04_Name.f k a0) (prompterref04_Name.f (k + 1) a0) := by
  intro a0 k
  obtain ⟨ih0, ih1⟩ := prompterref04_Name.mono_l k
  unfold prompterref04_Name.f
  repeat' first
      | (with_reducible exact ih0 _ _)
      | (with_reducible exact ih1 _ _)
      | (with_reducible exact LeO.refl _)
      | (with_reducible exact LeO.none _)
      | (with_reducible refine LeO.ite ?_ ?_)
      | (with_reducible refine LeO.bind ?_ (fun _ => ?_))
      | exact ih0 _ _
      | exact ih1 _ _
      | exact LeO.none _
      | refine LeO.ite ?_ ?_
      | refine LeO.bind ?_ (fun _ => ?_)
end Go.Proofs.Ytlbchdalimngjaa.P
namespace Go.Proofs.Ytlbchdalimngjaa.P
open Go.RowKit Go.Proofs.YtlbchdalimngjaaW.PrintWords Go.Proofs.YtlbchdalimngjaaW.PrintLast Go.Proofs.YtlbchdalimngjaaW.PrintMore
attribute [local go_sem] max2_int min2_int max_two min_two max_three min_three max_four min_four
set_option linter.unusedVariables false
set_option linter.unusedSimpArgs false
def prompterref08_Own.f (k : Nat) (a0 : ByteArray) : Option (Bool) := (prompterref04_Name.f k a0).bind fun t401 => (if t401 = true then ((prompterref07_Keyword.f k a0).bind fun t402 => (some (!t402))) else (some false))
theorem prompterref08_Own.mono : ∀ a0 k, LeO (prompterref08_Own.f k a0) (prompterref08_Own.f (k + 1) a0) := by
  intro a0 k
  unfold prompterref08_Own.f
  repeat' first
      | (with_reducible exact prompterref04_Name.mono _ _)
      | (with_reducible exact prompterref07_Keyword.mono _ _)
      | (with_reducible exact LeO.refl _)
      | (with_reducible exact LeO.none _)
      | (with_reducible refine LeO.ite ?_ ?_)
      | (with_reducible refine LeO.bind ?_ (fun _ => ?_))
      | exact prompterref04_Name.mono _ _
      | exact prompterref07_Keyword.mono _ _
      | exact LeO.none _
      | refine LeO.ite ?_ ?_
      | refine LeO.bind ?_ (fun _ => ?_)
def prompterref08_Least.j0 : Nat → Int → Bool → Option (Int)
  | 0, _, _ => none
  | k + 1, x0, x3 => if x3 = true then (some 0) else (if x0 = 6 then (some 2) else (if x0 = 7 then (some 2) else (if x0 ≥ 30 then (if x0 ≤ 42 then (some 2) else (some 1)) else (some 1))))
def prompterref08_Least.f (k : Nat) (a0 : Int) : Option (Int) := if a0 = 2 then (prompterref08_Least.j0 k a0 true) else (if a0 = 3 then (prompterref08_Least.j0 k a0 true) else (if a0 ≥ 20 then (if a0 ≤ 26 then (prompterref08_Least.j0 k a0 true) else (if a0 = 50 then (prompterref08_Least.j0 k a0 true) else (if a0 = 51 then (prompterref08_Least.j0 k a0 true) else (if a0 = 56 then (prompterref08_Least.j0 k a0 true) else (prompterref08_Least.j0 k a0 (a0 == 57)))))) else (if a0 = 50 then (prompterref08_Least.j0 k a0 true) else (if a0 = 51 then (prompterref08_Least.j0 k a0 true) else (if a0 = 56 then (prompterref08_Least.j0 k a0 true) else (prompterref08_Least.j0 k a0 (a0 == 57)))))))
theorem prompterref08_Least.mono_l : ∀ k, (∀ y0 y1, LeO (prompterref08_Least.j0 k y0 y1) (prompterref08_Least.j0 (k + 1) y0 y1))
  | 0 => fun _ _ r h => by simp [prompterref08_Least.j0] at h
  | k + 1 => by
    have ih0 := prompterref08_Least.mono_l k
    · intro y0 y1
      unfold prompterref08_Least.j0
      repeat' first
      | (with_reducible exact ih0 _ _)
      | (with_reducible exact LeO.refl _)
      | (with_reducible exact LeO.none _)
      | (with_reducible refine LeO.ite ?_ ?_)
      | (with_reducible refine LeO.bind ?_ (fun _ => ?_))
      | exact ih0 _ _
      | exact LeO.none _
      | refine LeO.ite ?_ ?_
      | refine LeO.bind ?_ (fun _ => ?_)
theorem prompterref08_Least.mono : ∀ a0 k, LeO (prompterref08_Least.f k a0) (prompterref08_Least.f (k + 1) a0) := by
  intro a0 k
  have ih0 := prompterref08_Least.mono_l k
  unfold prompterref08_Least.f
  repeat' first
      | (with_reducible exact ih0 _ _)
      | (with_reducible exact LeO.refl _)
      | (with_reducible exact LeO.none _)
      | (with_reducible refine LeO.ite ?_ ?_)
      | (with_reducible refine LeO.bind ?_ (fun _ => ?_))
      | exact ih0 _ _
      | exact LeO.none _
      | refine LeO.ite ?_ ?_
      | refine LeO.bind ?_ (fun _ => ?_)
def prompterref08_Most.j0 : Nat → Int → Int → Bool → Option (Int)
  | 0, _, _, _ => none
  | k + 1, x0, x3, x4 => if x4 = true then (some (-1)) else (if x3 = 6 then (some 3) else ((prompterref08_Least.f k x0).bind fun t403 => (some t403)))
def prompterref08_Most.f (k : Nat) (a0 : Int) : Option (Int) := if a0 = 1 then (prompterref08_Most.j0 k a0 a0 (a0 == 1)) else (if a0 = 3 then (prompterref08_Most.j0 k a0 a0 (a0 == 3)) else (if a0 = 25 then (prompterref08_Most.j0 k a0 a0 (a0 == 25)) else (if a0 = 50 then (prompterref08_Most.j0 k a0 a0 (a0 == 50)) else (prompterref08_Most.j0 k a0 a0 (a0 == 51)))))
theorem prompterref08_Most.mono_l : ∀ k, (∀ y0 y1 y2, LeO (prompterref08_Most.j0 k y0 y1 y2) (prompterref08_Most.j0 (k + 1) y0 y1 y2))
  | 0 => fun _ _ _ r h => by simp [prompterref08_Most.j0] at h
  | k + 1 => by
    have ih0 := prompterref08_Most.mono_l k
    · intro y0 y1 y2
      unfold prompterref08_Most.j0
      repeat' first
      | (with_reducible exact ih0 _ _ _)
      | (with_reducible exact prompterref08_Least.mono _ _)
      | (with_reducible exact LeO.refl _)
      | (with_reducible exact LeO.none _)
      | (with_reducible refine LeO.ite ?_ ?_)
      | (with_reducible refine LeO.bind ?_ (fun _ => ?_))
      | exact ih0 _ _ _
      | exact prompterref08_Least.mono _ _
      | exact LeO.none _
      | refine LeO.ite ?_ ?_
      | refine LeO.bind ?_ (fun _ => ?_)
theorem prompterref08_Most.mono : ∀ a0 k, LeO (prompterref08_Most.f k a0) (prompterref08_Most.f (k + 1) a0) := by
  intro a0 k
  have ih0 := prompterref08_Most.mono_l k
  unfold prompterref08_Most.f
  repeat' first
      | (with_reducible exact ih0 _ _ _)
      | (with_reducible exact prompterref08_Least.mono _ _)
      | (with_reducible exact LeO.refl _)
      | (with_reducible exact LeO.none _)
      | (with_reducible refine LeO.ite ?_ ?_)
      | (with_reducible refine LeO.bind ?_ (fun _ => ?_))
      | exact ih0 _ _ _
      | exact prompterref08_Least.mono _ _
      | exact LeO.none _
      | refine LeO.ite ?_ ?_
      | refine LeO.bind ?_ (fun _ => ?_)
end Go.Proofs.Ytlbchdalimngjaa.P
namespace Go.Proofs.Ytlbchdalimngjaa.P
open Go.RowKit Go.Proofs.YtlbchdalimngjaaW.PrintWords Go.Proofs.YtlbchdalimngjaaW.PrintLast Go.Proofs.YtlbchdalimngjaaW.PrintMore
attribute [local go_sem] max2_int min2_int max_two min_two max_three min_three max_four min_four
set_option linter.unusedVariables false
set_option linter.unusedSimpArgs false
mutual
def prompterref08_fine.j0 : Nat → Bool → Int → Int → Int → ByteArray → Option (Bool)
  | 0, _, _, _, _, _ => none
  | k + 1, x22, x405000, x405001, x405002, x405003 => if x22 = true then (some false) else ((prompterref08_named.f x405000).bind fun t407 => (if t407 = true then ((prompterref08_Own.f k x405003).bind fun t408 => (if t408 = true then (prompterref08_fine.j1 k x405000 x405001 x405002 x405003) else (some false))) else (if x405000 = 24 then (if (x405003.size : Int) > 4095 then (some false) else (prompterref08_fine.j1 k x405000 x405001 x405002 x405003)) else (if x405003.toList = ([] : List UInt8) then (prompterref08_fine.j1 k x405000 x405001 x405002 x405003) else (some false)))))
def prompterref08_fine.j1 : Nat → Int → Int → Int → ByteArray → Option (Bool)
  | 0, _, _, _, _ => none
  | k + 1, x405000, x405001, x405002, x405003 => if x405002 < 0 then (prompterref08_fine.j2 k true x405000 x405001 x405002 x405003) else (if x405002 > 0 then (prompterref08_fine.j2 k (x405000 != 23) x405000 x405001 x405002 x405003) else (prompterref08_fine.j2 k false x405000 x405001 x405002 x405003))
def prompterref08_fine.j2 : Nat → Bool → Int → Int → Int → ByteArray → Option (Bool)
  | 0, _, _, _, _, _ => none
  | k + 1, x52, x405000, x405001, x405002, x405003 => if x52 = true then (some false) else ((prompterref08_Least.f k x405000).bind fun t409 => (if x405001 ≥ t409 then ((prompterref08_Most.f k x405000).bind fun t410 => (if t410 < 0 then (if x405001 ≤ 2048 then (some true) else ((prompterref08_Most.f k x405000).bind fun t411 => (some (decide (x405001 ≤ t411))))) else ((prompterref08_Most.f k x405000).bind fun t412 => (some (decide (x405001 ≤ t412)))))) else (some false)))
end
def prompterref08_fine.f (k : Nat) (a0_0 : Int) (a0_1 : Int) (a0_2 : Int) (a0_3 : ByteArray) : Option (Bool) := (prompterref08_Expression.f a0_0).bind fun t405 => (if t405 = true then (prompterref08_fine.j0 k false a0_0 a0_1 a0_2 a0_3) else ((prompterref08_Statement.f a0_0).bind fun t406 => (if t406 = true then (prompterref08_fine.j0 k false a0_0 a0_1 a0_2 a0_3) else (if a0_0 < 1 then (prompterref08_fine.j0 k true a0_0 a0_1 a0_2 a0_3) else (prompterref08_fine.j0 k (decide (a0_0 > 3)) a0_0 a0_1 a0_2 a0_3)))))
theorem prompterref08_fine.mono_l : ∀ k, (∀ y0 y1 y2 y3 y4, LeO (prompterref08_fine.j0 k y0 y1 y2 y3 y4) (prompterref08_fine.j0 (k + 1) y0 y1 y2 y3 y4)) ∧ (∀ y0 y1 y2 y3, LeO (prompterref08_fine.j1 k y0 y1 y2 y3) (prompterref08_fine.j1 (k + 1) y0 y1 y2 y3)) ∧ (∀ y0 y1 y2 y3 y4, LeO (prompterref08_fine.j2 k y0 y1 y2 y3 y4) (prompterref08_fine.j2 (k + 1) y0 y1 y2 y3 y4))
  | 0 => ⟨fun _ _ _ _ _ r h => by simp [prompterref08_fine.j0] at h, fun _ _ _ _ r h => by simp [prompterref08_fine.j1] at h, fun _ _ _ _ _ r h => by simp [prompterref08_fine.j2] at h⟩
  | k + 1 => by
    obtain ⟨ih0, ih1, ih2⟩ := prompterref08_fine.mono_l k
    refine ⟨?_, ?_, ?_⟩
    · intro y0 y1 y2 y3 y4
      unfold prompterref08_fine.j0
      repeat' first
      | (with_reducible exact ih0 _ _ _ _ _)
      | (with_reducible exact ih1 _ _ _ _)
      | (with_reducible exact ih2 _ _ _ _ _)
      | (with_reducible exact prompterref08_Least.mono _ _)
      | (with_reducible exact prompterref08_Most.mono _ _)
      | (with_reducible exact prompterref08_Own.mono _ _)
      | (with_reducible exact LeO.refl _)
      | (with_reducible exact LeO.none _)
      | (with_reducible refine LeO.ite ?_ ?_)
      | (with_reducible refine LeO.bind ?_ (fun _ => ?_))
      | exact ih0 _ _ _ _ _
      | exact ih1 _ _ _ _
      | exact ih2 _ _ _ _ _
      | exact prompterref08_Least.mono _ _
      | exact prompterref08_Most.mono _ _
      | exact prompterref08_Own.mono _ _
      | exact LeO.none _
      | refine LeO.ite ?_ ?_
      | refine LeO.bind ?_ (fun _ => ?_)
    · intro y0 y1 y2 y3
      unfold prompterref08_fine.j1
      repeat' first
      | (with_reducible exact ih0 _ _ _ _ _)
      | (with_reducible exact ih1 _ _ _ _)
      | (with_reducible exact ih2 _ _ _ _ _)
      | (with_reducible exact prompterref08_Least.mono _ _)
      | (with_reducible exact prompterref08_Most.mono _ _)
      | (with_reducible exact prompterref08_Own.mono _ _)
      | (with_reducible exact LeO.refl _)
      | (with_reducible exact LeO.none _)
      | (with_reducible refine LeO.ite ?_ ?_)
      | (with_reducible refine LeO.bind ?_ (fun _ => ?_))
      | exact ih0 _ _ _ _ _
      | exact ih1 _ _ _ _
      | exact ih2 _ _ _ _ _
      | exact prompterref08_Least.mono _ _
      | exact prompterref08_Most.mono _ _
      | exact prompterref08_Own.mono _ _
      | exact LeO.none _
      | refine LeO.ite ?_ ?_
      | refine LeO.bind ?_ (fun _ => ?_)
    · intro y0 y1 y2 y3 y4
      unfold prompterref08_fine.j2
      repeat' first
      | (with_reducible exact ih0 _ _ _ _ _)
      | (with_reducible exact ih1 _ _ _ _)
      | (with_reducible exact ih2 _ _ _ _ _)
      | (with_reducible exact prompterref08_Least.mono _ _)
      | (with_reducible exact prompterref08_Most.mono _ _)
      | (with_reducible exact prompterref08_Own.mono _ _)
      | (with_reducible exact LeO.refl _)
      | (with_reducible exact LeO.none _)
      | (with_reducible refine LeO.ite ?_ ?_)
      | (with_reducible refine LeO.bind ?_ (fun _ => ?_))
      | exact ih0 _ _ _ _ _
      | exact ih1 _ _ _ _
      | exact ih2 _ _ _ _ _
      | exact prompterref08_Least.mono _ _
      | exact prompterref08_Most.mono _ _
      | exact prompterref08_Own.mono _ _
      | exact LeO.none _
      | refine LeO.ite ?_ ?_
      | refine LeO.bind ?_ (fun _ => ?_)
theorem prompterref08_fine.mono : ∀ a0 a1 a2 a3 k, LeO (prompterref08_fine.f k a0 a1 a2 a3) (prompterref08_fine.f (k + 1) a0 a1 a2 a3) := by
  intro a0 a1 a2 a3 k
  obtain ⟨ih0, ih1, ih2⟩ := prompterref08_fine.mono_l k
  unfold prompterref08_fine.f
  repeat' first
      | (with_reducible exact ih0 _ _ _ _ _)
      | (with_reducible exact ih1 _ _ _ _)
      | (with_reducible exact ih2 _ _ _ _ _)
      | (with_reducible exact prompterref08_Least.mono _ _)
      | (with_reducible exact prompterref08_Most.mono _ _)
      | (with_reducible exact prompterref08_Own.mono _ _)
      | (with_reducible exact LeO.refl _)
      | (with_reducible exact LeO.none _)
      | (with_reducible refine LeO.ite ?_ ?_)
      | (with_reducible refine LeO.bind ?_ (fun _ => ?_))
      | exact ih0 _ _ _ _ _
      | exact ih1 _ _ _ _
      | exact ih2 _ _ _ _ _
      | exact prompterref08_Least.mono _ _
      | exact prompterref08_Most.mono _ _
      | exact prompterref08_Own.mono _ _
      | exact LeO.none _
      | refine LeO.ite ?_ ?_
      | refine LeO.bind ?_ (fun _ => ?_)
end Go.Proofs.Ytlbchdalimngjaa.P
namespace Go.Proofs.Ytlbchdalimngjaa.P
open Go.RowKit Go.Proofs.YtlbchdalimngjaaW.PrintWords Go.Proofs.YtlbchdalimngjaaW.PrintLast Go.Proofs.YtlbchdalimngjaaW.PrintMore
attribute [local go_sem] max2_int min2_int max_two min_two max_three min_three max_four min_four
set_option linter.unusedVariables false
set_option linter.unusedSimpArgs false
def prompterref08_part.j0 : Nat → Int → Int → Int → Bool → Option (Bool)
  | 0, _, _, _, _ => none
  | k + 1, x1, x3, x9, x24 => if x24 = true then (if x1 > 0 then (some (x3 == 3)) else ((prompterref08_Expression.f x3).bind fun t414 => (some t414))) else (if x9 = 53 then (some (x3 == 3)) else ((prompterref08_Expression.f x3).bind fun t415 => (some t415)))
def prompterref08_part.f (k : Nat) (a0 : Int) (a1 : Int) (a2 : Int) (a3 : Int) : Option (Bool) := if a0 = 1 then (if a1 = (wrap64 (a2 - 1)) then (some (a3 == 3)) else (some (a3 == 2))) else (if a0 = 3 then ((prompterref08_Statement.f a3).bind fun t413 => (some t413)) else (if a0 = 6 then (prompterref08_part.j0 k a1 a3 a0 (a0 == 6)) else (prompterref08_part.j0 k a1 a3 a0 (a0 == 7))))
theorem prompterref08_part.mono_l : ∀ k, (∀ y0 y1 y2 y3, LeO (prompterref08_part.j0 k y0 y1 y2 y3) (prompterref08_part.j0 (k + 1) y0 y1 y2 y3))
  | 0 => fun _ _ _ _ r h => by simp [prompterref08_part.j0] at h
  | k + 1 => by
    have ih0 := prompterref08_part.mono_l k
    · intro y0 y1 y2 y3
      unfold prompterref08_part.j0
      repeat' first
      | (with_reducible exact ih0 _ _ _ _)
      | (with_reducible exact LeO.refl _)
      | (with_reducible exact LeO.none _)
      | (with_reducible refine LeO.ite ?_ ?_)
      | (with_reducible refine LeO.bind ?_ (fun _ => ?_))
      | exact ih0 _ _ _ _
      | exact LeO.none _
      | refine LeO.ite ?_ ?_
      | refine LeO.bind ?_ (fun _ => ?_)
theorem prompterref08_part.mono : ∀ a0 a1 a2 a3 k, LeO (prompterref08_part.f k a0 a1 a2 a3) (prompterref08_part.f (k + 1) a0 a1 a2 a3) := by
  intro a0 a1 a2 a3 k
  have ih0 := prompterref08_part.mono_l k
  unfold prompterref08_part.f
  repeat' first
      | (with_reducible exact ih0 _ _ _ _)
      | (with_reducible exact LeO.refl _)
      | (with_reducible exact LeO.none _)
      | (with_reducible refine LeO.ite ?_ ?_)
      | (with_reducible refine LeO.bind ?_ (fun _ => ?_))
      | exact ih0 _ _ _ _
      | exact LeO.none _
      | refine LeO.ite ?_ ?_
      | refine LeO.bind ?_ (fun _ => ?_)
end Go.Proofs.Ytlbchdalimngjaa.P
namespace Go.Proofs.Ytlbchdalimngjaa.P
open Go.RowKit Go.Proofs.YtlbchdalimngjaaW.PrintWords Go.Proofs.YtlbchdalimngjaaW.PrintLast Go.Proofs.YtlbchdalimngjaaW.PrintMore
attribute [local go_sem] max2_int min2_int max_two min_two max_three min_three max_four min_four
set_option linter.unusedVariables false
set_option linter.unusedSimpArgs false
mutual
def prompterref08_Check.l0 : Nat → List (S43) → List (S85) → Int → Int → Option (Int × Int)
  | 0, _, _, _, _ => none
  | k + 1, x0, x4, x5, x6 => if x6 < (x0.length : Int) then (if 0 ≤ x6 then (if x6 > 0 then (if (x4.length : Int) = 0 then (prompterref08_Check.j1 k x0 x4 x5 x6 true ((rd_T43 x0 x6).f0) ((rd_T43 x0 x6).f1) ((rd_T43 x0 x6).f2) ((rd_T43 x0 x6).f3)) else ((prompterref08_fine.f k ((rd_T43 x0 x6).f0) ((rd_T43 x0 x6).f1) ((rd_T43 x0 x6).f2) ((rd_T43 x0 x6).f3)).bind fun t418 => (prompterref08_Check.j1 k x0 x4 x5 x6 (!t418) ((rd_T43 x0 x6).f0) ((rd_T43 x0 x6).f1) ((rd_T43 x0 x6).f2) ((rd_T43 x0 x6).f3)))) else ((prompterref08_fine.f k ((rd_T43 x0 x6).f0) ((rd_T43 x0 x6).f1) ((rd_T43 x0 x6).f2) ((rd_T43 x0 x6).f3)).bind fun t419 => (prompterref08_Check.j1 k x0 x4 x5 x6 (!t419) ((rd_T43 x0 x6).f0) ((rd_T43 x0 x6).f1) ((rd_T43 x0 x6).f2) ((rd_T43 x0 x6).f3)))) else (none)) else (if (x0.length : Int) = 0 then (prompterref08_Check.j7 k x0 x5 true) else (prompterref08_Check.j7 k x0 x5 (decide ((x4.length : Int) > 0))))
def prompterref08_Check.j1 : Nat → List (S43) → List (S85) → Int → Int → Bool → Int → Int → Int → ByteArray → Option (Int × Int)
  | 0, _, _, _, _, _, _, _, _, _ => none
  | k + 1, x0, x4, x5, x6, x33, x418000, x418001, x418002, x418003 => if x33 = true then (some (x6, 3)) else (if (x4.length : Int) > 0 then (if 0 ≤ (wrap64 ((x4.length : Int) - 1)) then (if (wrap64 ((x4.length : Int) - 1)) < (x4.length : Int) then ((prompterref08_part.f k ((rd_T85 x4 (wrap64 ((x4.length : Int) - 1))).f0) ((rd_T85 x4 (wrap64 ((x4.length : Int) - 1))).f1) ((rd_T85 x4 (wrap64 ((x4.length : Int) - 1))).f2) x418000).bind fun t422 => (if t422 = true then (prompterref08_Check.j2 k x0 x4 x5 x6 x418000 x418001 x418002 x418003) else (some (x6, 3)))) else (none)) else (none)) else (prompterref08_Check.j2 k x0 x4 x5 x6 x418000 x418001 x418002 x418003))
def prompterref08_Check.j2 : Nat → List (S43) → List (S85) → Int → Int → Int → Int → Int → ByteArray → Option (Int × Int)
  | 0, _, _, _, _, _, _, _, _ => none
  | k + 1, x0, x4, x5, x6, x418000, x418001, x418002, x418003 => if x5 < 0 then (prompterref08_Check.j3 k x0 x4 x5 x6 (decide ((x4.length : Int) ≥ 40)) x418000 x418001 x418002 x418003) else (prompterref08_Check.j3 k x0 x4 x5 x6 false x418000 x418001 x418002 x418003)
def prompterref08_Check.j3 : Nat → List (S43) → List (S85) → Int → Int → Bool → Int → Int → Int → ByteArray → Option (Int × Int)
  | 0, _, _, _, _, _, _, _, _, _ => none
  | k + 1, x0, x4, x5, x6, x61, x418000, x418001, x418002, x418003 => if x61 = true then (prompterref08_Check.j4 k x0 x4 x6 x6 x418000 x418001 x418002 x418003) else (prompterref08_Check.j4 k x0 x4 x5 x6 x418000 x418001 x418002 x418003)
def prompterref08_Check.j4 : Nat → List (S43) → List (S85) → Int → Int → Int → Int → Int → ByteArray → Option (Int × Int)
  | 0, _, _, _, _, _, _, _, _ => none
  | k + 1, x0, x4, x5, x6, x418000, x418001, x418002, x418003 => if x4.length < 5864062014805 then (prompterref08_Check.l1 k x0 (x4 ++ [(⟨x418000, 0, x418001⟩ : S85)]) x5 x6) else (none)
def prompterref08_Check.l1 : Nat → List (S43) → List (S85) → Int → Int → Option (Int × Int)
  | 0, _, _, _, _ => none
  | k + 1, x0, x4, x5, x6 => if (x4.length : Int) > 0 then (if 0 ≤ (wrap64 ((x4.length : Int) - 1)) then (if (wrap64 ((x4.length : Int) - 1)) < (x4.length : Int) then (prompterref08_Check.j6 k x0 x4 x5 x6 (((rd_T85 x4 (wrap64 ((x4.length : Int) - 1))).f1) == ((rd_T85 x4 (wrap64 ((x4.length : Int) - 1))).f2))) else (none)) else (none)) else (prompterref08_Check.j6 k x0 x4 x5 x6 false)
def prompterref08_Check.j6 : Nat → List (S43) → List (S85) → Int → Int → Bool → Option (Int × Int)
  | 0, _, _, _, _, _ => none
  | k + 1, x0, x4, x5, x6, x90 => if x90 = true then (if 0 ≤ (wrap64 ((x4.length : Int) - 1)) then (if (wrap64 ((x4.length : Int) - 1)) ≤ (x4.length : Int) then ((some (x4.take ((wrap64 ((x4.length : Int) - 1)) : Int).toNat : List (S85))).bind fun y428 => (if (y428.length : Int) > 0 then (if 0 ≤ (wrap64 ((y428.length : Int) - 1)) then (if (wrap64 ((y428.length : Int) - 1)) < (y428.length : Int) then (prompterref08_Check.l1 k x0 (y428.set ((wrap64 ((y428.length : Int) - 1)) : Int).toNat (⟨(rd_T85 y428 (wrap64 ((y428.length : Int) - 1))).f0, wrap64 (((rd_T85 y428 (wrap64 ((y428.length : Int) - 1))).f1) + 1), (rd_T85 y428 (wrap64 ((y428.length : Int) - 1))).f2⟩ : S85)) x5 x6) else (none)) else (none)) else (prompterref08_Check.l1 k x0 y428 x5 x6))) else (none)) else (none)) else (prompterref08_Check.l0 k x0 x4 x5 (wrap64 (x6 + 1)))
def prompterref08_Check.j7 : Nat → List (S43) → Int → Bool → Option (Int × Int)
  | 0, _, _, _ => none
  | k + 1, x0, x5, x120 => if x120 = true then (some ((x0.length : Int), 3)) else (if x5 ≥ 0 then (some (x5, 2)) else (some (0, 0)))
end
def prompterref08_Check.f (k : Nat) (l0 : List (S43)) : Option (Int × Int) := if (l0.length : Int) > 2048 then (some (0, 2)) else (prompterref08_Check.l0 k l0 ([] : List (S85)) (-1) 0)
theorem prompterref08_Check.mono_l : ∀ k, (∀ y0 y1 y2 y3, LeO (prompterref08_Check.l0 k y0 y1 y2 y3) (prompterref08_Check.l0 (k + 1) y0 y1 y2 y3)) ∧ (∀ y0 y1 y2 y3 y4 y5 y6 y7 y8, LeO (prompterref08_Check.j1 k y0 y1 y2 y3 y4 y5 y6 y7 y8) (prompterref08_Check.j1 (k + 1) y0 y1 y2 y3 y4 y5 y6 y7 y8)) ∧ (∀ y0 y1 y2 y3 y4 y5 y6 y7, LeO (prompterref08_Check.j2 k y0 y1 y2 y3 y4 y5 y6 y7) (prompterref08_Check.j2 (k + 1) y0 y1 y2 y3 y4 y5 y6 y7)) ∧ (∀ y0 y1 y2 y3 y4 y5 y6 y7 y8, LeO (prompterref08_Check.j3 k y0 y1 y2 y3 y4 y5 y6 y7 y8) (prompterref08_Check.j3 (k + 1) y0 y1 y2 y3 y4 y5 y6 y7 y8)) ∧ (∀ y0 y1 y2 y3 y4 y5 y6 y7, LeO (prompterref08_Check.j4 k y0 y1 y2 y3 y4 y5 y6 y7) (prompterref08_Check.j4 (k + 1) y0 y1 y2 y3 y4 y5 y6 y7)) ∧ (∀ y0 y1 y2 y3, LeO (prompterref08_Check.l1 k y0 y1 y2 y3) (prompterref08_Check.l1 (k + 1) y0 y1 y2 y3)) ∧ (∀ y0 y1 y2 y3 y4, LeO (prompterref08_Check.j6 k y0 y1 y2 y3 y4) (prompterref08_Check.j6 (k + 1) y0 y1 y2 y3 y4)) ∧ (∀ y0 y1 y2, LeO (prompterref08_Check.j7 k y0 y1 y2) (prompterref08_Check.j7 (k + 1) y0 y1 y2))
  | 0 => ⟨fun _ _ _ _ r h => by simp [prompterref08_Check.l0] at h, fun _ _ _ _ _ _ _ _ _ r h => by simp [prompterref08_Check.j1] at h, fun _ _ _ _ _ _ _ _ r h => by simp [prompterref08_Check.j2] at h, fun _ _ _ _ _ _ _ _ _ r h => by simp [prompterref08_Check.j3] at h, fun _ _ _ _ _ _ _ _ r h => by simp [prompterref08_Check.j4] at h, fun _ _ _ _ r h => by simp [prompterref08_Check.l1] at h, fun _ _ _ _ _ r h => by simp [prompterref08_Check.j6] at h, fun _ _ _ r h => by simp [prompterref08_Check.j7] at h⟩
  | k + 1 => by
    obtain ⟨ih0, ih1, ih2, ih3, ih4, ih5, ih6, ih7⟩ := prompterref08_Check.mono_l k
    refine ⟨?_, ?_, ?_, ?_, ?_, ?_, ?_, ?_⟩
    · intro y0 y1 y2 y3
      unfold prompterref08_Check.l0
      repeat' first
      | (with_reducible exact ih0 _ _ _ _)
      | (with_reducible exact ih1 _ _ _ _ _ _ _ _ _)
      | (with_reducible exact ih2 _ _ _ _ _ _ _ _)
      | (with_reducible exact ih3 _ _ _ _ _ _ _ _ _)
      | (with_reducible exact ih4 _ _ _ _ _ _ _ _)
      | (with_reducible exact ih5 _ _ _ _)
      | (with_reducible exact ih6 _ _ _ _ _)
      | (with_reducible exact ih7 _ _ _)
      | (with_reducible exact prompterref08_fine.mono _ _ _ _ _)
      | (with_reducible exact prompterref08_part.mono _ _ _ _ _)
      | (with_reducible exact LeO.refl _)
      | (with_reducible exact LeO.none _)
      | (with_reducible refine LeO.ite ?_ ?_)
      | (with_reducible refine LeO.bind ?_ (fun _ => ?_))
      | exact ih0 _ _ _ _
      | exact ih1 _ _ _ _ _ _ _ _ _
      | exact ih2 _ _ _ _ _ _ _ _
      | exact ih3 _ _ _ _ _ _ _ _ _
      | exact ih4 _ _ _ _ _ _ _ _
      | exact ih5 _ _ _ _
      | exact ih6 _ _ _ _ _
      | exact ih7 _ _ _
      | exact prompterref08_fine.mono _ _ _ _ _
      | exact prompterref08_part.mono _ _ _ _ _
      | exact LeO.none _
      | refine LeO.ite ?_ ?_
      | refine LeO.bind ?_ (fun _ => ?_)
    · intro y0 y1 y2 y3 y4 y5 y6 y7 y8
      unfold prompterref08_Check.j1
      repeat' first
      | (with_reducible exact ih0 _ _ _ _)
      | (with_reducible exact ih1 _ _ _ _ _ _ _ _ _)
      | (with_reducible exact ih2 _ _ _ _ _ _ _ _)
      | (with_reducible exact ih3 _ _ _ _ _ _ _ _ _)
      | (with_reducible exact ih4 _ _ _ _ _ _ _ _)
      | (with_reducible exact ih5 _ _ _ _)
      | (with_reducible exact ih6 _ _ _ _ _)
      | (with_reducible exact ih7 _ _ _)
      | (with_reducible exact prompterref08_fine.mono _ _ _ _ _)
      | (with_reducible exact prompterref08_part.mono _ _ _ _ _)
      | (with_reducible exact LeO.refl _)
      | (with_reducible exact LeO.none _)
      | (with_reducible refine LeO.ite ?_ ?_)
      | (with_reducible refine LeO.bind ?_ (fun _ => ?_))
      | exact ih0 _ _ _ _
      | exact ih1 _ _ _ _ _ _ _ _ _
      | exact ih2 _ _ _ _ _ _ _ _
      | exact ih3 _ _ _ _ _ _ _ _ _
      | exact ih4 _ _ _ _ _ _ _ _
      | exact ih5 _ _ _ _
      | exact ih6 _ _ _ _ _
      | exact ih7 _ _ _
      | exact prompterref08_fine.mono _ _ _ _ _
      | exact prompterref08_part.mono _ _ _ _ _
      | exact LeO.none _
      | refine LeO.ite ?_ ?_
      | refine LeO.bind ?_ (fun _ => ?_)
    · intro y0 y1 y2 y3 y4 y5 y6 y7
      unfold prompterref08_Check.j2
      repeat' first
      | (with_reducible exact ih0 _ _ _ _)
      | (with_reducible exact ih1 _ _ _ _ _ _ _ _ _)
      | (with_reducible exact ih2 _ _ _ _ _ _ _ _)
      | (with_reducible exact ih3 _ _ _ _ _ _ _ _ _)
      | (with_reducible exact ih4 _ _ _ _ _ _ _ _)
      | (with_reducible exact ih5 _ _ _ _)
      | (with_reducible exact ih6 _ _ _ _ _)
      | (with_reducible exact ih7 _ _ _)
      | (with_reducible exact prompterref08_fine.mono _ _ _ _ _)
      | (with_reducible exact prompterref08_part.mono _ _ _ _ _)
      | (with_reducible exact LeO.refl _)
      | (with_reducible exact LeO.none _)
      | (with_reducible refine LeO.ite ?_ ?_)
      | (with_reducible refine LeO.bind ?_ (fun _ => ?_))
      | exact ih0 _ _ _ _
      | exact ih1 _ _ _ _ _ _ _ _ _
      | exact ih2 _ _ _ _ _ _ _ _
      | exact ih3 _ _ _ _ _ _ _ _ _
      | exact ih4 _ _ _ _ _ _ _ _
      | exact ih5 _ _ _ _
      | exact ih6 _ _ _ _ _
      | exact ih7 _ _ _
      | exact prompterref08_fine.mono _ _ _ _ _
      | exact prompterref08_part.mono _ _ _ _ _
      | exact LeO.none _
      | refine LeO.ite ?_ ?_
      | refine LeO.bind ?_ (fun _ => ?_)
    · intro y0 y1 y2 y3 y4 y5 y6 y7 y8
      unfold prompterref08_Check.j3
      repeat' first
      | (with_reducible exact ih0 _ _ _ _)
      | (with_reducible exact ih1 _ _ _ _ _ _ _ _ _)
      | (with_reducible exact ih2 _ _ _ _ _ _ _ _)
      | (with_reducible exact ih3 _ _ _ _ _ _ _ _ _)
      | (with_reducible exact ih4 _ _ _ _ _ _ _ _)
      | (with_reducible exact ih5 _ _ _ _)
      | (with_reducible exact ih6 _ _ _ _ _)
      | (with_reducible exact ih7 _ _ _)
      | (with_reducible exact prompterref08_fine.mono _ _ _ _ _)
      | (with_reducible exact prompterref08_part.mono _ _ _ _ _)
      | (with_reducible exact LeO.refl _)
      | (with_reducible exact LeO.none _)
      | (with_reducible refine LeO.ite ?_ ?_)
      | (with_reducible refine LeO.bind ?_ (fun _ => ?_))
      | exact ih0 _ _ _ _
      | exact ih1 _ _ _ _ _ _ _ _ _
      | exact ih2 _ _ _ _ _ _ _ _
      | exact ih3 _ _ _ _ _ _ _ _ _
      | exact ih4 _ _ _ _ _ _ _ _
      | exact ih5 _ _ _ _
      | exact ih6 _ _ _ _ _
      | exact ih7 _ _ _
      | exact prompterref08_fine.mono _ _ _ _ _
      | exact prompterref08_part.mono _ _ _ _ _
      | exact LeO.none _
      | refine LeO.ite ?_ ?_
      | refine LeO.bind ?_ (fun _ => ?_)
    · intro y0 y1 y2 y3 y4 y5 y6 y7
      unfold prompterref08_Check.j4
      repeat' first
      | (with_reducible exact ih0 _ _ _ _)
      | (with_reducible exact ih1 _ _ _ _ _ _ _ _ _)
      | (with_reducible exact ih2 _ _ _ _ _ _ _ _)
      | (with_reducible exact ih3 _ _ _ _ _ _ _ _ _)
      | (with_reducible exact ih4 _ _ _ _ _ _ _ _)
      | (with_reducible exact ih5 _ _ _ _)
      | (with_reducible exact ih6 _ _ _ _ _)
      | (with_reducible exact ih7 _ _ _)
      | (with_reducible exact prompterref08_fine.mono _ _ _ _ _)
      | (with_reducible exact prompterref08_part.mono _ _ _ _ _)
      | (with_reducible exact LeO.refl _)
      | (with_reducible exact LeO.none _)
      | (with_reducible refine LeO.ite ?_ ?_)
      | (with_reducible refine LeO.bind ?_ (fun _ => ?_))
      | exact ih0 _ _ _ _
      | exact ih1 _ _ _ _ _ _ _ _ _
      | exact ih2 _ _ _ _ _ _ _ _
      | exact ih3 _ _ _ _ _ _ _ _ _
      | exact ih4 _ _ _ _ _ _ _ _
      | exact ih5 _ _ _ _
      | exact ih6 _ _ _ _ _
      | exact ih7 _ _ _
      | exact prompterref08_fine.mono _ _ _ _ _
      | exact prompterref08_part.mono _ _ _ _ _
      | exact LeO.none _
      | refine LeO.ite ?_ ?_
      | refine LeO.bind ?_ (fun _ => ?_)
    · intro y0 y1 y2 y3
      unfold prompterref08_Check.l1
      repeat' first
      | (with_reducible exact ih0 _ _ _ _)
      | (with_reducible exact ih1 _ _ _ _ _ _ _ _ _)
      | (with_reducible exact ih2 _ _ _ _ _ _ _ _)
      | (with_reducible exact ih3 _ _ _ _ _ _ _ _ _)
      | (with_reducible exact ih4 _ _ _ _ _ _ _ _)
      | (with_reducible exact ih5 _ _ _ _)
      | (with_reducible exact ih6 _ _ _ _ _)
      | (with_reducible exact ih7 _ _ _)
      | (with_reducible exact prompterref08_fine.mono _ _ _ _ _)
      | (with_reducible exact prompterref08_part.mono _ _ _ _ _)
      | (with_reducible exact LeO.refl _)
      | (with_reducible exact LeO.none _)
      | (with_reducible refine LeO.ite ?_ ?_)
      | (with_reducible refine LeO.bind ?_ (fun _ => ?_))
      | exact ih0 _ _ _ _
      | exact ih1 _ _ _ _ _ _ _ _ _
      | exact ih2 _ _ _ _ _ _ _ _
      | exact ih3 _ _ _ _ _ _ _ _ _
      | exact ih4 _ _ _ _ _ _ _ _
      | exact ih5 _ _ _ _
      | exact ih6 _ _ _ _ _
      | exact ih7 _ _ _
      | exact prompterref08_fine.mono _ _ _ _ _
      | exact prompterref08_part.mono _ _ _ _ _
      | exact LeO.none _
      | refine LeO.ite ?_ ?_
      | refine LeO.bind ?_ (fun _ => ?_)
    · intro y0 y1 y2 y3 y4
      unfold prompterref08_Check.j6
      repeat' first
      | (with_reducible exact ih0 _ _ _ _)
      | (with_reducible exact ih1 _ _ _ _ _ _ _ _ _)
      | (with_reducible exact ih2 _ _ _ _ _ _ _ _)
      | (with_reducible exact ih3 _ _ _ _ _ _ _ _ _)
      | (with_reducible exact ih4 _ _ _ _ _ _ _ _)
      | (with_reducible exact ih5 _ _ _ _)
      | (with_reducible exact ih6 _ _ _ _ _)
      | (with_reducible exact ih7 _ _ _)
      | (with_reducible exact prompterref08_fine.mono _ _ _ _ _)
      | (with_reducible exact prompterref08_part.mono _ _ _ _ _)
      | (with_reducible exact LeO.refl _)
      | (with_reducible exact LeO.none _)
      | (with_reducible refine LeO.ite ?_ ?_)
      | (with_reducible refine LeO.bind ?_ (fun _ => ?_))
      | exact ih0 _ _ _ _
      | exact ih1 _ _ _ _ _ _ _ _ _
      | exact ih2 _ _ _ _ _ _ _ _
      | exact ih3 _ _ _ _ _ _ _ _ _
      | exact ih4 _ _ _ _ _ _ _ _
      | exact ih5 _ _ _ _
      | exact ih6 _ _ _ _ _
      | exact ih7 _ _ _
      | exact prompterref08_fine.mono _ _ _ _ _
      | exact prompterref08_part.mono _ _ _ _ _
      | exact LeO.none _
      | refine LeO.ite ?_ ?_
      | refine LeO.bind ?_ (fun _ => ?_)
    · intro y0 y1 y2
      unfold prompterref08_Check.j7
      repeat' first
      | (with_reducible exact ih0 _ _ _ _)
      | (with_reducible exact ih1 _ _ _ _ _ _ _ _ _)
      | (with_reducible exact ih2 _ _ _ _ _ _ _ _)
      | (with_reducible exact ih3 _ _ _ _ _ _ _ _ _)
      | (with_reducible exact ih4 _ _ _ _ _ _ _ _)
      | (with_reducible exact ih5 _ _ _ _)
      | (with_reducible exact ih6 _ _ _ _ _)
      | (with_reducible exact ih7 _ _ _)
      | (with_reducible exact prompterref08_fine.mono _ _ _ _ _)
      | (with_reducible exact prompterref08_part.mono _ _ _ _ _)
      | (with_reducible exact LeO.refl _)
      | (with_reducible exact LeO.none _)
      | (with_reducible refine LeO.ite ?_ ?_)
      | (with_reducible refine LeO.bind ?_ (fun _ => ?_))
      | exact ih0 _ _ _ _
      | exact ih1 _ _ _ _ _ _ _ _ _
      | exact ih2 _ _ _ _ _ _ _ _
      | exact ih3 _ _ _ _ _ _ _ _ _
      | exact ih4 _ _ _ _ _ _ _ _
      | exact ih5 _ _ _ _
      | exact ih6 _ _ _ _ _
      | exact ih7 _ _ _
      | exact prompterref08_fine.mono _ _ _ _ _
      | exact prompterref08_part.mono _ _ _ _ _
      | exact LeO.none _
      | refine LeO.ite ?_ ?_
      | refine LeO.bind ?_ (fun _ => ?_)
theorem prompterref08_Check.mono : ∀ a0 k, LeO (prompterref08_Check.f k a0) (prompterref08_Check.f (k + 1) a0) := by
  intro a0 k
  obtain ⟨ih0, ih1, ih2, ih3, ih4, ih5, ih6, ih7⟩ := prompterref08_Check.mono_l k
  unfold prompterref08_Check.f
  repeat' first
      | (with_reducible exact ih0 _ _ _ _)
      | (with_reducible exact ih1 _ _ _ _ _ _ _ _ _)
      | (with_reducible exact ih2 _ _ _ _ _ _ _ _)
      | (with_reducible exact ih3 _ _ _ _ _ _ _ _ _)
      | (with_reducible exact ih4 _ _ _ _ _ _ _ _)
      | (with_reducible exact ih5 _ _ _ _)
      | (with_reducible exact ih6 _ _ _ _ _)
      | (with_reducible exact ih7 _ _ _)
      | (with_reducible exact prompterref08_fine.mono _ _ _ _ _)
      | (with_reducible exact prompterref08_part.mono _ _ _ _ _)
      | (with_reducible exact LeO.refl _)
      | (with_reducible exact LeO.none _)
      | (with_reducible refine LeO.ite ?_ ?_)
      | (with_reducible refine LeO.bind ?_ (fun _ => ?_))
      | exact ih0 _ _ _ _
      | exact ih1 _ _ _ _ _ _ _ _ _
      | exact ih2 _ _ _ _ _ _ _ _
      | exact ih3 _ _ _ _ _ _ _ _ _
      | exact ih4 _ _ _ _ _ _ _ _
      | exact ih5 _ _ _ _
      | exact ih6 _ _ _ _ _
      | exact ih7 _ _ _
      | exact prompterref08_fine.mono _ _ _ _ _
      | exact prompterref08_part.mono _ _ _ _ _
      | exact LeO.none _
      | refine LeO.ite ?_ ?_
      | refine LeO.bind ?_ (fun _ => ?_)
end Go.Proofs.Ytlbchdalimngjaa.P
namespace Go.Proofs.Ytlbchdalimngjaa.P
open Go.RowKit Go.Proofs.YtlbchdalimngjaaW.PrintWords Go.Proofs.YtlbchdalimngjaaW.PrintLast Go.Proofs.YtlbchdalimngjaaW.PrintMore
attribute [local go_sem] max2_int min2_int max_two min_two max_three min_three max_four min_four
set_option linter.unusedVariables false
set_option linter.unusedSimpArgs false
def token_Keyword.f (a0 : ByteArray) : Option (Bool) := if a0.toList = ([102, 108, 111, 119] : List UInt8) then (some true) else (if a0.toList = ([108, 101, 116] : List UInt8) then (some true) else (if a0.toList = ([105, 102] : List UInt8) then (some true) else (if a0.toList = ([101, 108, 115, 101] : List UInt8) then (some true) else (if a0.toList = ([119, 104, 105, 108, 101] : List UInt8) then (some true) else (if a0.toList = ([114, 101, 116, 117, 114, 110] : List UInt8) then (some true) else (if a0.toList = ([102, 97, 105, 108] : List UInt8) then (some true) else (if a0.toList = ([115, 108, 101, 101, 112] : List UInt8) then (some true) else (if a0.toList = ([100, 111] : List UInt8) then (some true) else (if a0.toList = ([110, 111, 110, 101] : List UInt8) then (some true) else (if a0.toList = ([116, 114, 117, 101] : List UInt8) then (some true) else (if a0.toList = ([102, 97, 108, 115, 101] : List UInt8) then (some true) else (if a0.toList = ([111, 114] : List UInt8) then (some true) else (if a0.toList = ([97, 110, 100] : List UInt8) then (some true) else (if a0.toList = ([110, 111, 116] : List UInt8) then (some true) else (if a0.toList = ([108, 101, 110] : List UInt8) then (some true) else (if a0.toList = ([110, 117, 109] : List UInt8) then (some true) else (if a0.toList = ([114, 101] : List UInt8) then (some true) else (if a0.toList = ([105, 109] : List UInt8) then (some true) else (if a0.toList = ([99, 111, 110, 106] : List UInt8) then (some true) else (if a0.toList = ([99, 97, 108, 108] : List UInt8) then (some true) else (if a0.toList = ([99, 104, 105, 108, 100] : List UInt8) then (some true) else (if a0.toList = ([116, 105, 109, 101, 114] : List UInt8) then (some true) else (if a0.toList = ([102, 111, 114, 107] : List UInt8) then (some true) else (if a0.toList = ([97, 119, 97, 105, 116] : List UInt8) then (some true) else (if a0.toList = ([115, 101, 116, 116, 108, 101] : List UInt8) then (some true) else (if a0.toList = ([116, 97, 107, 101] : List UInt8) then (some true) else (if a0.toList = ([118, 101, 114, 115, 105, 111, 110] : List UInt8) then (some true) else (some false))))))))))))))))))))))))))))
set_option maxHeartbeats 8000000 in
set_option maxRecDepth 100000 in
theorem token_Keyword.calls (a0 : ByteArray) (r : Bool) (w : World) (h : token_Keyword.f a0 = some r) :
    Calls Try.prog 14 #[.string a0] w fun e w' => e = .returned (.bool r) ∧ Drawn0 w w' := by
  have H : (if a0.toList = ([102, 108, 111, 119] : List UInt8) then (some true) else (if a0.toList = ([108, 101, 116] : List UInt8) then (some true) else (if a0.toList = ([105, 102] : List UInt8) then (some true) else (if a0.toList = ([101, 108, 115, 101] : List UInt8) then (some true) else (if a0.toList = ([119, 104, 105, 108, 101] : List UInt8) then (some true) else (if a0.toList = ([114, 101, 116, 117, 114, 110] : List UInt8) then (some true) else (if a0.toList = ([102, 97, 105, 108] : List UInt8) then (some true) else (if a0.toList = ([115, 108, 101, 101, 112] : List UInt8) then (some true) else (if a0.toList = ([100, 111] : List UInt8) then (some true) else (if a0.toList = ([110, 111, 110, 101] : List UInt8) then (some true) else (if a0.toList = ([116, 114, 117, 101] : List UInt8) then (some true) else (if a0.toList = ([102, 97, 108, 115, 101] : List UInt8) then (some true) else (if a0.toList = ([111, 114] : List UInt8) then (some true) else (if a0.toList = ([97, 110, 100] : List UInt8) then (some true) else (if a0.toList = ([110, 111, 116] : List UInt8) then (some true) else (if a0.toList = ([108, 101, 110] : List UInt8) then (some true) else (if a0.toList = ([110, 117, 109] : List UInt8) then (some true) else (if a0.toList = ([114, 101] : List UInt8) then (some true) else (if a0.toList = ([105, 109] : List UInt8) then (some true) else (if a0.toList = ([99, 111, 110, 106] : List UInt8) then (some true) else (if a0.toList = ([99, 97, 108, 108] : List UInt8) then (some true) else (if a0.toList = ([99, 104, 105, 108, 100] : List UInt8) then (some true) else (if a0.toList = ([116, 105, 109, 101, 114] : List UInt8) then (some true) else (if a0.toList = ([102, 111, 114, 107] : List UInt8) then (some true) else (if a0.toList = ([97, 119, 97, 105, 116] : List UInt8) then (some true) else (if a0.toList = ([115, 101, 116, 116, 108, 101] : List UInt8) then (some true) else (if a0.toList = ([116, 97, 107, 101] : List UInt8) then (some true) else (if a0.toList = ([118, 101, 114, 115, 105, 111, 110] : List UInt8) then (some true) else (some false))))))))))))))))))))))))))))) = some r := h
  clear h
  by_cases c2 : a0.toList = ([102, 108, 111, 119] : List UInt8)
  · rw [if_pos c2] at H
    have c2b0 : (a0.toList == ([102, 108, 111, 119] : List UInt8)) = true := beq_iff_eq.mpr c2
    have c2b1 : (a0.toList != ([102, 108, 111, 119] : List UInt8)) = false := bne_eq_false_iff_eq.mpr c2
    clear c2
    obtain rfl := Option.some.inj H
    go_enter Try.func14, Try.ntmps14
    go_wp2
    go_ret
    exact ⟨by first | rfl | (simp; done) | (simp [*]; done), by repeat (first | exact Drawn0.refl _ | apply Drawn0.step)⟩
  · rw [if_neg c2] at H
    have c2b0 : (a0.toList == ([102, 108, 111, 119] : List UInt8)) = false := beq_eq_false_iff_ne.mpr c2
    have c2b1 : (a0.toList != ([102, 108, 111, 119] : List UInt8)) = true := bne_iff_ne.mpr c2
    by_cases c3 : a0.toList = ([108, 101, 116] : List UInt8)
    · rw [if_pos c3] at H
      have c3b0 : (a0.toList == ([108, 101, 116] : List UInt8)) = true := beq_iff_eq.mpr c3
      have c3b1 : (a0.toList != ([108, 101, 116] : List UInt8)) = false := bne_eq_false_iff_eq.mpr c3
      clear c3
      obtain rfl := Option.some.inj H
      go_enter Try.func14, Try.ntmps14
      go_wp2
      go_ret
      exact ⟨by first | rfl | (simp; done) | (simp [*]; done), by repeat (first | exact Drawn0.refl _ | apply Drawn0.step)⟩
    · rw [if_neg c3] at H
      have c3b0 : (a0.toList == ([108, 101, 116] : List UInt8)) = false := beq_eq_false_iff_ne.mpr c3
      have c3b1 : (a0.toList != ([108, 101, 116] : List UInt8)) = true := bne_iff_ne.mpr c3
      by_cases c4 : a0.toList = ([105, 102] : List UInt8)
      · rw [if_pos c4] at H
        have c4b0 : (a0.toList == ([105, 102] : List UInt8)) = true := beq_iff_eq.mpr c4
        have c4b1 : (a0.toList != ([105, 102] : List UInt8)) = false := bne_eq_false_iff_eq.mpr c4
        clear c4
        obtain rfl := Option.some.inj H
        go_enter Try.func14, Try.ntmps14
        go_wp2
        go_ret
        exact ⟨by first | rfl | (simp; done) | (simp [*]; done), by repeat (first | exact Drawn0.refl _ | apply Drawn0.step)⟩
      · rw [if_neg c4] at H
        have c4b0 : (a0.toList == ([105, 102] : List UInt8)) = false := beq_eq_false_iff_ne.mpr c4
        have c4b1 : (a0.toList != ([105, 102] : List UInt8)) = true := bne_iff_ne.mpr c4
        by_cases c5 : a0.toList = ([101, 108, 115, 101] : List UInt8)
        · rw [if_pos c5] at H
          have c5b0 : (a0.toList == ([101, 108, 115, 101] : List UInt8)) = true := beq_iff_eq.mpr c5
          have c5b1 : (a0.toList != ([101, 108, 115, 101] : List UInt8)) = false := bne_eq_false_iff_eq.mpr c5
          clear c5
          obtain rfl := Option.some.inj H
          go_enter Try.func14, Try.ntmps14
          go_wp2
          go_ret
          exact ⟨by first | rfl | (simp; done) | (simp [*]; done), by repeat (first | exact Drawn0.refl _ | apply Drawn0.step)⟩
        · rw [if_neg c5] at H
          have c5b0 : (a0.toList == ([101, 108, 115, 101] : List UInt8)) = false := beq_eq_false_iff_ne.mpr c5
          have c5b1 : (a0.toList != ([101, 108, 115, 101] : List UInt8)) = true := bne_iff_ne.mpr c5
          by_cases c6 : a0.toList = ([119, 104, 105, 108, 101] : List UInt8)
          · rw [if_pos c6] at H
            have c6b0 : (a0.toList == ([119, 104, 105, 108, 101] : List UInt8)) = true := beq_iff_eq.mpr c6
            have c6b1 : (a0.toList != ([119, 104, 105, 108, 101] : List UInt8)) = false := bne_eq_false_iff_eq.mpr c6
            clear c6
            obtain rfl := Option.some.inj H
            go_enter Try.func14, Try.ntmps14
            go_wp2
            go_ret
            exact ⟨by first | rfl | (simp; done) | (simp [*]; done), by repeat (first | exact Drawn0.refl _ | apply Drawn0.step)⟩
          · rw [if_neg c6] at H
            have c6b0 : (a0.toList == ([119, 104, 105, 108, 101] : List UInt8)) = false := beq_eq_false_iff_ne.mpr c6
            have c6b1 : (a0.toList != ([119, 104, 105, 108, 101] : List UInt8)) = true := bne_iff_ne.mpr c6
            by_cases c7 : a0.toList = ([114, 101, 116, 117, 114, 110] : List UInt8)
            · rw [if_pos c7] at H
              have c7b0 : (a0.toList == ([114, 101, 116, 117, 114, 110] : List UInt8)) = true := beq_iff_eq.mpr c7
              have c7b1 : (a0.toList != ([114, 101, 116, 117, 114, 110] : List UInt8)) = false := bne_eq_false_iff_eq.mpr c7
              clear c7
              obtain rfl := Option.some.inj H
              go_enter Try.func14, Try.ntmps14
              go_wp2
              go_ret
              exact ⟨by first | rfl | (simp; done) | (simp [*]; done), by repeat (first | exact Drawn0.refl _ | apply Drawn0.step)⟩
            · rw [if_neg c7] at H
              have c7b0 : (a0.toList == ([114, 101, 116, 117, 114, 110] : List UInt8)) = false := beq_eq_false_iff_ne.mpr c7
              have c7b1 : (a0.toList != ([114, 101, 116, 117, 114, 110] : List UInt8)) = true := bne_iff_ne.mpr c7
              by_cases c8 : a0.toList = ([102, 97, 105, 108] : List UInt8)
              · rw [if_pos c8] at H
                have c8b0 : (a0.toList == ([102, 97, 105, 108] : List UInt8)) = true := beq_iff_eq.mpr c8
                have c8b1 : (a0.toList != ([102, 97, 105, 108] : List UInt8)) = false := bne_eq_false_iff_eq.mpr c8
                clear c8
                obtain rfl := Option.some.inj H
                go_enter Try.func14, Try.ntmps14
                go_wp2
                go_ret
                exact ⟨by first | rfl | (simp; done) | (simp [*]; done), by repeat (first | exact Drawn0.refl _ | apply Drawn0.step)⟩
              · rw [if_neg c8] at H
                have c8b0 : (a0.toList == ([102, 97, 105, 108] : List UInt8)) = false := beq_eq_false_iff_ne.mpr c8
                have c8b1 : (a0.toList != ([102, 97, 105, 108] : List UInt8)) = true := bne_iff_ne.mpr c8
                by_cases c9 : a0.toList = ([115, 108, 101, 101, 112] : List UInt8)
                · rw [if_pos c9] at H
                  have c9b0 : (a0.toList == ([115, 108, 101, 101, 112] : List UInt8)) = true := beq_iff_eq.mpr c9
                  have c9b1 : (a0.toList != ([115, 108, 101, 101, 112] : List UInt8)) = false := bne_eq_false_iff_eq.mpr c9
                  clear c9
                  obtain rfl := Option.some.inj H
                  go_enter Try.func14, Try.ntmps14
                  go_wp2
                  go_ret
                  exact ⟨by first | rfl | (simp; done) | (simp [*]; done), by repeat (first | exact Drawn0.refl _ | apply Drawn0.step)⟩
                · rw [if_neg c9] at H
                  have c9b0 : (a0.toList == ([115, 108, 101, 101, 112] : List UInt8)) = false := beq_eq_false_iff_ne.mpr c9
                  have c9b1 : (a0.toList != ([115, 108, 101, 101, 112] : List UInt8)) = true := bne_iff_ne.mpr c9
                  by_cases c10 : a0.toList = ([100, 111] : List UInt8)
                  · rw [if_pos c10] at H
                    have c10b0 : (a0.toList == ([100, 111] : List UInt8)) = true := beq_iff_eq.mpr c10
                    have c10b1 : (a0.toList != ([100, 111] : List UInt8)) = false := bne_eq_false_iff_eq.mpr c10
                    clear c10
                    obtain rfl := Option.some.inj H
                    go_enter Try.func14, Try.ntmps14
                    go_wp2
                    go_ret
                    exact ⟨by first | rfl | (simp; done) | (simp [*]; done), by repeat (first | exact Drawn0.refl _ | apply Drawn0.step)⟩
                  · rw [if_neg c10] at H
                    have c10b0 : (a0.toList == ([100, 111] : List UInt8)) = false := beq_eq_false_iff_ne.mpr c10
                    have c10b1 : (a0.toList != ([100, 111] : List UInt8)) = true := bne_iff_ne.mpr c10
                    by_cases c11 : a0.toList = ([110, 111, 110, 101] : List UInt8)
                    · rw [if_pos c11] at H
                      have c11b0 : (a0.toList == ([110, 111, 110, 101] : List UInt8)) = true := beq_iff_eq.mpr c11
                      have c11b1 : (a0.toList != ([110, 111, 110, 101] : List UInt8)) = false := bne_eq_false_iff_eq.mpr c11
                      clear c11
                      obtain rfl := Option.some.inj H
                      go_enter Try.func14, Try.ntmps14
                      go_wp2
                      go_ret
                      exact ⟨by first | rfl | (simp; done) | (simp [*]; done), by repeat (first | exact Drawn0.refl _ | apply Drawn0.step)⟩
                    · rw [if_neg c11] at H
                      have c11b0 : (a0.toList == ([110, 111, 110, 101] : List UInt8)) = false := beq_eq_false_iff_ne.mpr c11
                      have c11b1 : (a0.toList != ([110, 111, 110, 101] : List UInt8)) = true := bne_iff_ne.mpr c11
                      by_cases c12 : a0.toList = ([116, 114, 117, 101] : List UInt8)
                      · rw [if_pos c12] at H
                        have c12b0 : (a0.toList == ([116, 114, 117, 101] : List UInt8)) = true := beq_iff_eq.mpr c12
                        have c12b1 : (a0.toList != ([116, 114, 117, 101] : List UInt8)) = false := bne_eq_false_iff_eq.mpr c12
                        clear c12
                        obtain rfl := Option.some.inj H
                        go_enter Try.func14, Try.ntmps14
                        go_wp2
                        go_ret
                        exact ⟨by first | rfl | (simp; done) | (simp [*]; done), by repeat (first | exact Drawn0.refl _ | apply Drawn0.step)⟩
                      · rw [if_neg c12] at H
                        have c12b0 : (a0.toList == ([116, 114, 117, 101] : List UInt8)) = false := beq_eq_false_iff_ne.mpr c12
                        have c12b1 : (a0.toList != ([116, 114, 117, 101] : List UInt8)) = true := bne_iff_ne.mpr c12
                        by_cases c13 : a0.toList = ([102, 97, 108, 115, 101] : List UInt8)
                        · rw [if_pos c13] at H
                          have c13b0 : (a0.toList == ([102, 97, 108, 115, 101] : List UInt8)) = true := beq_iff_eq.mpr c13
                          have c13b1 : (a0.toList != ([102, 97, 108, 115, 101] : List UInt8)) = false := bne_eq_false_iff_eq.mpr c13
                          clear c13
                          obtain rfl := Option.some.inj H
                          go_enter Try.func14, Try.ntmps14
                          go_wp2
                          go_ret
                          exact ⟨by first | rfl | (simp; done) | (simp [*]; done), by repeat (first | exact Drawn0.refl _ | apply Drawn0.step)⟩
                        · rw [if_neg c13] at H
                          have c13b0 : (a0.toList == ([102, 97, 108, 115, 101] : List UInt8)) = false := beq_eq_false_iff_ne.mpr c13
                          have c13b1 : (a0.toList != ([102, 97, 108, 115, 101] : List UInt8)) = true := bne_iff_ne.mpr c13
                          by_cases c14 : a0.toList = ([111, 114] : List UInt8)
                          · rw [if_pos c14] at H
                            have c14b0 : (a0.toList == ([111, 114] : List UInt8)) = true := beq_iff_eq.mpr c14
                            have c14b1 : (a0.toList != ([111, 114] : List UInt8)) = false := bne_eq_false_iff_eq.mpr c14
                            clear c14
                            obtain rfl := Option.some.inj H
                            go_enter Try.func14, Try.ntmps14
                            go_wp2
                            go_ret
                            exact ⟨by first | rfl | (simp; done) | (simp [*]; done), by repeat (first | exact Drawn0.refl _ | apply Drawn0.step)⟩
                          · rw [if_neg c14] at H
                            have c14b0 : (a0.toList == ([111, 114] : List UInt8)) = false := beq_eq_false_iff_ne.mpr c14
                            have c14b1 : (a0.toList != ([111, 114] : List UInt8)) = true := bne_iff_ne.mpr c14
                            by_cases c15 : a0.toList = ([97, 110, 100] : List UInt8)
                            · rw [if_pos c15] at H
                              have c15b0 : (a0.toList == ([97, 110, 100] : List UInt8)) = true := beq_iff_eq.mpr c15
                              have c15b1 : (a0.toList != ([97, 110, 100] : List UInt8)) = false := bne_eq_false_iff_eq.mpr c15
                              clear c15
                              obtain rfl := Option.some.inj H
                              go_enter Try.func14, Try.ntmps14
                              go_wp2
                              go_ret
                              exact ⟨by first | rfl | (simp; done) | (simp [*]; done), by repeat (first | exact Drawn0.refl _ | apply Drawn0.step)⟩
                            · rw [if_neg c15] at H
                              have c15b0 : (a0.toList == ([97, 110, 100] : List UInt8)) = false := beq_eq_false_iff_ne.mpr c15
                              have c15b1 : (a0.toList != ([97, 110, 100] : List UInt8)) = true := bne_iff_ne.mpr c15
                              by_cases c16 : a0.toList = ([110, 111, 116] : List UInt8)
                              · rw [if_pos c16] at H
                                have c16b0 : (a0.toList == ([110, 111, 116] : List UInt8)) = true := beq_iff_eq.mpr c16
                                have c16b1 : (a0.toList != ([110, 111, 116] : List UInt8)) = false := bne_eq_false_iff_eq.mpr c16
                                clear c16
                                obtain rfl := Option.some.inj H
                                go_enter Try.func14, Try.ntmps14
                                go_wp2
                                go_ret
                                exact ⟨by first | rfl | (simp; done) | (simp [*]; done), by repeat (first | exact Drawn0.refl _ | apply Drawn0.step)⟩
                              · rw [if_neg c16] at H
                                have c16b0 : (a0.toList == ([110, 111, 116] : List UInt8)) = false := beq_eq_false_iff_ne.mpr c16
                                have c16b1 : (a0.toList != ([110, 111, 116] : List UInt8)) = true := bne_iff_ne.mpr c16
                                by_cases c17 : a0.toList = ([108, 101, 110] : List UInt8)
                                · rw [if_pos c17] at H
                                  have c17b0 : (a0.toList == ([108, 101, 110] : List UInt8)) = true := beq_iff_eq.mpr c17
                                  have c17b1 : (a0.toList != ([108, 101, 110] : List UInt8)) = false := bne_eq_false_iff_eq.mpr c17
                                  clear c17
                                  obtain rfl := Option.some.inj H
                                  go_enter Try.func14, Try.ntmps14
                                  go_wp2
                                  go_ret
                                  exact ⟨by first | rfl | (simp; done) | (simp [*]; done), by repeat (first | exact Drawn0.refl _ | apply Drawn0.step)⟩
                                · rw [if_neg c17] at H
                                  have c17b0 : (a0.toList == ([108, 101, 110] : List UInt8)) = false := beq_eq_false_iff_ne.mpr c17
                                  have c17b1 : (a0.toList != ([108, 101, 110] : List UInt8)) = true := bne_iff_ne.mpr c17
                                  by_cases c18 : a0.toList = ([110, 117, 109] : List UInt8)
                                  · rw [if_pos c18] at H
                                    have c18b0 : (a0.toList == ([110, 117, 109] : List UInt8)) = true := beq_iff_eq.mpr c18
                                    have c18b1 : (a0.toList != ([110, 117, 109] : List UInt8)) = false := bne_eq_false_iff_eq.mpr c18
                                    clear c18
                                    obtain rfl := Option.some.inj H
                                    go_enter Try.func14, Try.ntmps14
                                    go_wp2
                                    go_ret
                                    exact ⟨by first | rfl | (simp; done) | (simp [*]; done), by repeat (first | exact Drawn0.refl _ | apply Drawn0.step)⟩
                                  · rw [if_neg c18] at H
                                    have c18b0 : (a0.toList == ([110, 117, 109] : List UInt8)) = false := beq_eq_false_iff_ne.mpr c18
                                    have c18b1 : (a0.toList != ([110, 117, 109] : List UInt8)) = true := bne_iff_ne.mpr c18
                                    by_cases c19 : a0.toList = ([114, 101] : List UInt8)
                                    · rw [if_pos c19] at H
                                      have c19b0 : (a0.toList == ([114, 101] : List UInt8)) = true := beq_iff_eq.mpr c19
                                      have c19b1 : (a0.toList != ([114, 101] : List UInt8)) = false := bne_eq_false_iff_eq.mpr c19
                                      clear c19
                                      obtain rfl := Option.some.inj H
                                      go_enter Try.func14, Try.ntmps14
                                      go_wp2
                                      go_ret
                                      exact ⟨by first | rfl | (simp; done) | (simp [*]; done), by repeat (first | exact Drawn0.refl _ | apply Drawn0.step)⟩
                                    · rw [if_neg c19] at H
                                      have c19b0 : (a0.toList == ([114, 101] : List UInt8)) = false := beq_eq_false_iff_ne.mpr c19
                                      have c19b1 : (a0.toList != ([114, 101] : List UInt8)) = true := bne_iff_ne.mpr c19
                                      by_cases c20 : a0.toList = ([105, 109] : List UInt8)
                                      · rw [if_pos c20] at H
                                        have c20b0 : (a0.toList == ([105, 109] : List UInt8)) = true := beq_iff_eq.mpr c20
                                        have c20b1 : (a0.toList != ([105, 109] : List UInt8)) = false := bne_eq_false_iff_eq.mpr c20
                                        clear c20
                                        obtain rfl := Option.some.inj H
                                        go_enter Try.func14, Try.ntmps14
                                        go_wp2
                                        go_ret
                                        exact ⟨by first | rfl | (simp; done) | (simp [*]; done), by repeat (first | exact Drawn0.refl _ | apply Drawn0.step)⟩
                                      · rw [if_neg c20] at H
                                        have c20b0 : (a0.toList == ([105, 109] : List UInt8)) = false := beq_eq_false_iff_ne.mpr c20
                                        have c20b1 : (a0.toList != ([105, 109] : List UInt8)) = true := bne_iff_ne.mpr c20
                                        by_cases c21 : a0.toList = ([99, 111, 110, 106] : List UInt8)
                                        · rw [if_pos c21] at H
                                          have c21b0 : (a0.toList == ([99, 111, 110, 106] : List UInt8)) = true := beq_iff_eq.mpr c21
                                          have c21b1 : (a0.toList != ([99, 111, 110, 106] : List UInt8)) = false := bne_eq_false_iff_eq.mpr c21
                                          clear c21
                                          obtain rfl := Option.some.inj H
                                          go_enter Try.func14, Try.ntmps14
                                          go_wp2
                                          go_ret
                                          exact ⟨by first | rfl | (simp; done) | (simp [*]; done), by repeat (first | exact Drawn0.refl _ | apply Drawn0.step)⟩
                                        · rw [if_neg c21] at H
                                          have c21b0 : (a0.toList == ([99, 111, 110, 106] : List UInt8)) = false := beq_eq_false_iff_ne.mpr c21
                                          have c21b1 : (a0.toList != ([99, 111, 110, 106] : List UInt8)) = true := bne_iff_ne.mpr c21
                                          by_cases c22 : a0.toList = ([99, 97, 108, 108] : List UInt8)
                                          · rw [if_pos c22] at H
                                            have c22b0 : (a0.toList == ([99, 97, 108, 108] : List UInt8)) = true := beq_iff_eq.mpr c22
                                            have c22b1 : (a0.toList != ([99, 97, 108, 108] : List UInt8)) = false := bne_eq_false_iff_eq.mpr c22
                                            clear c22
                                            obtain rfl := Option.some.inj H
                                            go_enter Try.func14, Try.ntmps14
                                            go_wp2
                                            go_ret
                                            exact ⟨by first | rfl | (simp; done) | (simp [*]; done), by repeat (first | exact Drawn0.refl _ | apply Drawn0.step)⟩
                                          · rw [if_neg c22] at H
                                            have c22b0 : (a0.toList == ([99, 97, 108, 108] : List UInt8)) = false := beq_eq_false_iff_ne.mpr c22
                                            have c22b1 : (a0.toList != ([99, 97, 108, 108] : List UInt8)) = true := bne_iff_ne.mpr c22
                                            by_cases c23 : a0.toList = ([99, 104, 105, 108, 100] : List UInt8)
                                            · rw [if_pos c23] at H
                                              have c23b0 : (a0.toList == ([99, 104, 105, 108, 100] : List UInt8)) = true := beq_iff_eq.mpr c23
                                              have c23b1 : (a0.toList != ([99, 104, 105, 108, 100] : List UInt8)) = false := bne_eq_false_iff_eq.mpr c23
                                              clear c23
                                              obtain rfl := Option.some.inj H
                                              go_enter Try.func14, Try.ntmps14
                                              go_wp2
                                              go_ret
                                              exact ⟨by first | rfl | (simp; done) | (simp [*]; done), by repeat (first | exact Drawn0.refl _ | apply Drawn0.step)⟩
                                            · rw [if_neg c23] at H
                                              have c23b0 : (a0.toList == ([99, 104, 105, 108, 100] : List UInt8)) = false := beq_eq_false_iff_ne.mpr c23
                                              have c23b1 : (a0.toList != ([99, 104, 105, 108, 100] : List UInt8)) = true := bne_iff_ne.mpr c23
                                              by_cases c24 : a0.toList = ([116, 105, 109, 101, 114] : List UInt8)
                                              · rw [if_pos c24] at H
                                                have c24b0 : (a0.toList == ([116, 105, 109, 101, 114] : List UInt8)) = true := beq_iff_eq.mpr c24
                                                have c24b1 : (a0.toList != ([116, 105, 109, 101, 114] : List UInt8)) = false := bne_eq_false_iff_eq.mpr c24
                                                clear c24
                                                obtain rfl := Option.some.inj H
                                                go_enter Try.func14, Try.ntmps14
                                                go_wp2
                                                go_ret
                                                exact ⟨by first | rfl | (simp; done) | (simp [*]; done), by repeat (first | exact Drawn0.refl _ | apply Drawn0.step)⟩
                                              · rw [if_neg c24] at H
                                                have c24b0 : (a0.toList == ([116, 105, 109, 101, 114] : List UInt8)) = false := beq_eq_false_iff_ne.mpr c24
                                                have c24b1 : (a0.toList != ([116, 105, 109, 101, 114] : List UInt8)) = true := bne_iff_ne.mpr c24
                                                by_cases c25 : a0.toList = ([102, 111, 114, 107] : List UInt8)
                                                · rw [if_pos c25] at H
                                                  have c25b0 : (a0.toList == ([102, 111, 114, 107] : List UInt8)) = true := beq_iff_eq.mpr c25
                                                  have c25b1 : (a0.toList != ([102, 111, 114, 107] : List UInt8)) = false := bne_eq_false_iff_eq.mpr c25
                                                  clear c25
                                                  obtain rfl := Option.some.inj H
                                                  go_enter Try.func14, Try.ntmps14
                                                  go_wp2
                                                  go_ret
                                                  exact ⟨by first | rfl | (simp; done) | (simp [*]; done), by repeat (first | exact Drawn0.refl _ | apply Drawn0.step)⟩
                                                · rw [if_neg c25] at H
                                                  have c25b0 : (a0.toList == ([102, 111, 114, 107] : List UInt8)) = false := beq_eq_false_iff_ne.mpr c25
                                                  have c25b1 : (a0.toList != ([102, 111, 114, 107] : List UInt8)) = true := bne_iff_ne.mpr c25
                                                  by_cases c26 : a0.toList = ([97, 119, 97, 105, 116] : List UInt8)
                                                  · rw [if_pos c26] at H
                                                    have c26b0 : (a0.toList == ([97, 119, 97, 105, 116] : List UInt8)) = true := beq_iff_eq.mpr c26
                                                    have c26b1 : (a0.toList != ([97, 119, 97, 105, 116] : List UInt8)) = false := bne_eq_false_iff_eq.mpr c26
                                                    clear c26
                                                    obtain rfl := Option.some.inj H
                                                    go_enter Try.func14, Try.ntmps14
                                                    go_wp2
                                                    go_ret
                                                    exact ⟨by first | rfl | (simp; done) | (simp [*]; done), by repeat (first | exact Drawn0.refl _ | apply Drawn0.step)⟩
                                                  · rw [if_neg c26] at H
                                                    have c26b0 : (a0.toList == ([97, 119, 97, 105, 116] : List UInt8)) = false := beq_eq_false_iff_ne.mpr c26
                                                    have c26b1 : (a0.toList != ([97, 119, 97, 105, 116] : List UInt8)) = true := bne_iff_ne.mpr c26
                                                    by_cases c27 : a0.toList = ([115, 101, 116, 116, 108, 101] : List UInt8)
                                                    · rw [if_pos c27] at H
                                                      have c27b0 : (a0.toList == ([115, 101, 116, 116, 108, 101] : List UInt8)) = true := beq_iff_eq.mpr c27
                                                      have c27b1 : (a0.toList != ([115, 101, 116, 116, 108, 101] : List UInt8)) = false := bne_eq_false_iff_eq.mpr c27
                                                      clear c27
                                                      obtain rfl := Option.some.inj H
                                                      go_enter Try.func14, Try.ntmps14
                                                      go_wp2
                                                      go_ret
                                                      exact ⟨by first | rfl | (simp; done) | (simp [*]; done), by repeat (first | exact Drawn0.refl _ | apply Drawn0.step)⟩
                                                    · rw [if_neg c27] at H
                                                      have c27b0 : (a0.toList == ([115, 101, 116, 116, 108, 101] : List UInt8)) = false := beq_eq_false_iff_ne.mpr c27
                                                      have c27b1 : (a0.toList != ([115, 101, 116, 116, 108, 101] : List UInt8)) = true := bne_iff_ne.mpr c27
                                                      by_cases c28 : a0.toList = ([116, 97, 107, 101] : List UInt8)
                                                      · rw [if_pos c28] at H
                                                        have c28b0 : (a0.toList == ([116, 97, 107, 101] : List UInt8)) = true := beq_iff_eq.mpr c28
                                                        have c28b1 : (a0.toList != ([116, 97, 107, 101] : List UInt8)) = false := bne_eq_false_iff_eq.mpr c28
                                                        clear c28
                                                        obtain rfl := Option.some.inj H
                                                        go_enter Try.func14, Try.ntmps14
                                                        go_wp2
                                                        go_ret
                                                        exact ⟨by first | rfl | (simp; done) | (simp [*]; done), by repeat (first | exact Drawn0.refl _ | apply Drawn0.step)⟩
                                                      · rw [if_neg c28] at H
                                                        have c28b0 : (a0.toList == ([116, 97, 107, 101] : List UInt8)) = false := beq_eq_false_iff_ne.mpr c28
                                                        have c28b1 : (a0.toList != ([116, 97, 107, 101] : List UInt8)) = true := bne_iff_ne.mpr c28
                                                        by_cases c29 : a0.toList = ([118, 101, 114, 115, 105, 111, 110] : List UInt8)
                                                        · rw [if_pos c29] at H
                                                          have c29b0 : (a0.toList == ([118, 101, 114, 115, 105, 111, 110] : List UInt8)) = true := beq_iff_eq.mpr c29
                                                          have c29b1 : (a0.toList != ([118, 101, 114, 115, 105, 111, 110] : List UInt8)) = false := bne_eq_false_iff_eq.mpr c29
                                                          clear c29
                                                          obtain rfl := Option.some.inj H
                                                          go_enter Try.func14, Try.ntmps14
                                                          go_wp2
                                                          go_ret
                                                          exact ⟨by first | rfl | (simp; done) | (simp [*]; done), by repeat (first | exact Drawn0.refl _ | apply Drawn0.step)⟩
                                                        · rw [if_neg c29] at H
                                                          have c29b0 : (a0.toList == ([118, 101, 114, 115, 105, 111, 110] : List UInt8)) = false := beq_eq_false_iff_ne.mpr c29
                                                          have c29b1 : (a0.toList != ([118, 101, 114, 115, 105, 111, 110] : List UInt8)) = true := bne_iff_ne.mpr c29
                                                          obtain rfl := Option.some.inj H
                                                          go_enter Try.func14, Try.ntmps14
                                                          go_wp2
                                                          go_ret
                                                          exact ⟨by first | rfl | (simp; done) | (simp [*]; done), by repeat (first | exact Drawn0.refl _ | apply Drawn0.step)⟩
end Go.Proofs.Ytlbchdalimngjaa.P
namespace Go.Proofs.Ytlbchdalimngjaa.P
open Go.RowKit Go.Proofs.YtlbchdalimngjaaW.PrintWords Go.Proofs.YtlbchdalimngjaaW.PrintLast Go.Proofs.YtlbchdalimngjaaW.PrintMore
set_option linter.unusedVariables false
set_option linter.unusedSimpArgs false
abbrev Tok := S33
def IsRd (w0 W : World) (g : Nat) (l : List Tok) (size : Int) (long : Bool) : Prop :=
  ∃ A c, W.heap[g]? = some (.cells #[.slice A l.length c, .int .i64 size, .bool long] 91 (0, 0)) ∧ w0.heap.size ≤ g ∧ l.length ≤ c ∧ Kd.C k33 w0 A l.length l
section
variable {w0 W W1 : World} {g : Nat} {l : List Tok} {size : Int} {long : Bool}
theorem IsRd.below (h : IsRd w0 W g l size long) (hw : Below W.heap.size W W1) : IsRd w0 W1 g l size long := by
  obtain ⟨A, c, hb, h1, h2, h3⟩ := h
  exact ⟨A, c, blk_below hb hw, h1, h2, h3⟩
theorem IsRd.ge (h : IsRd w0 W g l size long) : w0.heap.size ≤ g := by obtain ⟨A, c, hb, h1, h2, h3⟩ := h; exact h1
theorem IsRd.lt (h : IsRd w0 W g l size long) : g < W.heap.size := by obtain ⟨A, c, hb, h1, h2, h3⟩ := h; exact blk_lt hb
theorem IsRd.setLong (h : IsRd w0 W g l size long) (b : Bool) : IsRd w0 (W.setCell ⟨g, 2, none⟩ (.bool b)) g l size b := by
  obtain ⟨A, c, hb, h1, h2, h3⟩ := h
  exact ⟨A, c, by simpa using blk_set hb 2 (.bool b), h1, h2, h3⟩
theorem IsRd.setL {A' : Option Addr} {c' : Nat} {l' : List Tok} (h : IsRd w0 W g l size long) (hc : l'.length ≤ c') (hC : Kd.C k33 w0 A' l'.length l') : IsRd w0 (W.setCell ⟨g, 0, none⟩ (.slice A' l'.length c')) g l' size long := by
  obtain ⟨A, c, hb, h1, h2, h3⟩ := h
  exact ⟨A', c', by simpa using blk_set hb 0 (.slice A' l'.length c'), h1, hc, hC⟩
end
def isB (l : List Tok) (s : ByteArray) : Bool := match l with
  | [] => false
  | x :: _ => (x.f0 == 1 || x.f0 == 4) && (x.f1.toList == s.toList)
def kwTok (s : ByteArray) : Bool := (token_Keyword.f s).getD false
theorem kw_ite_some (c : Prop) [Decidable c] (x : Option Bool) (h : ∃ b, x = some b) : ∃ b, (if c then some true else x) = some b := by
  by_cases h1 : c
  · exact ⟨true, if_pos h1⟩
  · rw [if_neg h1]; exact h
theorem kwTok_some (s : ByteArray) : token_Keyword.f s = some (kwTok s) := by
  have h : ∃ b, token_Keyword.f s = some b := by
    unfold token_Keyword.f
    repeat refine kw_ite_some _ _ ?_
    exact ⟨false, rfl⟩
  obtain ⟨b, h⟩ := h
  unfold kwTok
  rw [h]
  rfl
def mineB (l : List Tok) : Bool := match l with
  | [] => false
  | x :: _ => x.f0 == 1 && !kwTok x.f1
def faultV (l : List Tok) (size : Int) : Value := .iface 88 (match l with
  | [] => .agg #[.int .i64 size, .int .i64 4]
  | x :: _ => .agg #[.int .i64 x.f3, .int .i64 9])
def faultC (l : List Tok) (size : Int) : List PanicEntry := [{ v := faultV l size, recovered := false }]
theorem rd_head {w0 : World} {A : Option Addr} {x : Tok} {l : List Tok} (h : Kd.C k33 w0 A (x :: l).length (x :: l)) : ∃ ad, A = some ad ∧ w0.cell? ad = some (.int .u8 x.f0) ∧ w0.cell? ⟨ad.block, ad.off + 1, none⟩ = some (.string x.f1) ∧ w0.cell? ⟨ad.block, ad.off + 2, none⟩ = some (.int .i64 x.f2) ∧ w0.cell? ⟨ad.block, ad.off + 3, none⟩ = some (.int .i64 x.f3) := by
  obtain ⟨ad, e, h0, h1, h2, h3⟩ := at_T33 h 0 (by omega) (by rw [List.length_cons]; omega)
  rw [show (0 : Int).toNat * 4 = 0 from rfl, Addr.add_zero'] at h0 h1 h2 h3
  exact ⟨ad, e, h0, h1, h2, h3⟩
section
variable {w0 w : World} {g : Nat} {l : List Tok} {size : Int} {long : Bool}
set_option maxHeartbeats 1000000 in
theorem rd_fault (hI : IsRd w0 w g l size long) (hB : Below w0.heap.size w0 w) :
    Calls Try.prog 79 #[.pointer (some ⟨g, 0, none⟩)] w fun e w' => e = .panicked (faultC l size) ∧ w' = w := by
  obtain ⟨A, c, hb, h1, h2, h3⟩ := hI
  have hc0 : w.cell? ⟨g, 0, none⟩ = some (.slice A l.length c) := (blk_cell hb 0).trans rfl
  have hc1 : w.cell? ⟨g, 1, none⟩ = some (.int .i64 size) := (blk_cell hb 1).trans rfl
  cases l with
  | nil =>
    go_enter Try.func79, Try.ntmps79
    go_wp2
    exact ⟨rfl, rfl, rfl⟩
  | cons x l =>
    obtain ⟨ad, rfl, p0, p1, p2, p3⟩ := rd_head h3
    have q3 : w.cell? ⟨ad.block, ad.off + 3, none⟩ = some (.int .i64 x.f3) := pw_cell_below hB p3
    clear p0 p1 p2 p3 hb h1 h2 h3
    have hl : decide (((l.length + 1 : Nat) : Int) = 0) = false := decide_eq_false (by omega)
    go_enter Try.func79, Try.ntmps79
    go_wp2
    exact ⟨rfl, rfl, rfl⟩
set_option maxHeartbeats 2000000 in
theorem rd_is (s : ByteArray) (hI : IsRd w0 w g l size long) (hB : Below w0.heap.size w0 w) :
    Calls Try.prog 111 #[.pointer (some ⟨g, 0, none⟩), .string s] w fun e w' => e = .returned (.bool (isB l s)) ∧ w' = w := by
  obtain ⟨A, c, hb, h1, h2, h3⟩ := hI
  have hc0 : w.cell? ⟨g, 0, none⟩ = some (.slice A l.length c) := (blk_cell hb 0).trans rfl
  cases l with
  | nil =>
    clear hb h1 h2 h3
    go_enter Try.func111, Try.ntmps111
    go_wp2
    go_ret
    exact ⟨rfl, rfl⟩
  | cons x l =>
    obtain ⟨ad, rfl, p0, p1, p2, p3⟩ := rd_head h3
    have q0 : w.cell? ad = some (.int .u8 x.f0) := pw_cell_below hB p0
    have q1 : w.cell? ⟨ad.block, ad.off + 1, none⟩ = some (.string x.f1) := pw_cell_below hB p1
    clear p0 p1 p2 p3 hb h1 h2 h3
    have hl : decide ((0 : Int) < ((l.length + 1 : Nat) : Int)) = true := decide_eq_true (by omega)
    have hl2 : decide (0 < l.length + 1) = true := decide_eq_true (by omega)
    unfold isB
    cases k1 : x.f0 == 1 with
    | true =>
      go_enter Try.func111, Try.ntmps111
      go_wp2
      go_ret
      exact ⟨by simp [k1], rfl⟩
    | false =>
      cases k4 : x.f0 == 4 with
      | true =>
        go_enter Try.func111, Try.ntmps111
        go_wp2
        go_ret
        exact ⟨by simp [k1, k4], rfl⟩
      | false =>
        go_enter Try.func111, Try.ntmps111
        go_wp2
        go_ret
        exact ⟨by simp [k1, k4], rfl⟩
theorem isB_cons {l : List Tok} {s : ByteArray} (h : isB l s = true) : ∃ x r, l = x :: r := by
  cases l with
  | nil => cases h
  | cons x r => exact ⟨x, r, rfl⟩
theorem rd_next {x : Tok} {r : List Tok} (hI : IsRd w0 w g (x :: r) size long) : ∃ A c A' c', w.cell? ⟨g, 0, none⟩ = some (.slice A (r.length + 1) c) ∧ w.frozen? ⟨g, 0, none⟩ = false ∧
    (∀ W : World, (Instr.slice 27 (.slice A (r.length + 1) c) (some (.int .i64 1)) none none).run Try.prog W = .ok (.slice A' r.length c') W) ∧
    IsRd w0 (w.setCell ⟨g, 0, none⟩ (.slice A' r.length c')) g r size long := by
  have hI' := hI
  obtain ⟨A, c, hb, h1, h2, h3⟩ := hI
  obtain ⟨i0, hi, _, hsz, _⟩ := info_parts info33
  refine ⟨A, c, if c = 1 then A else A.map (·.add 4), c - 1, (blk_cell hb 0).trans rfl, blk_frozen hb 0, fun W => ?_, ?_⟩
  · have := cut_from (P := Try.prog) 27 33 .i64 Try.underlying27 hi 4 hsz A (r.length + 1) c 1 (by omega) (by omega) W
    exact this
  · have hd := Kd.C_drop (m := 1) (c := c) h3 (by rw [List.length_cons]; omega) h2
    rw [List.length_cons] at h2
    exact hI'.setL (A' := if c = 1 then A else A.map (·.add 4)) (c' := c - 1) (l' := r) (by omega) hd
set_option maxHeartbeats 2000000 in
theorem rd_has_f (s : ByteArray) (hI : IsRd w0 w g l size long) (hB : Below w0.heap.size w0 w) (hs : isB l s = false) :
    Calls Try.prog 99 #[.pointer (some ⟨g, 0, none⟩), .string s] w fun e w' => e = .returned (.bool false) ∧ w' = w := by
  go_enter Try.func99, Try.ntmps99
  go_wp2_with (go_at_call 111; (with_reducible refine (rd_is s hI hB).mono ?_); rintro e w' ⟨rfl, rfl⟩)
  go_ret
  exact ⟨rfl, rfl⟩
set_option maxHeartbeats 2000000 in
theorem rd_has_t (s : ByteArray) {x : Tok} {r : List Tok} (hI : IsRd w0 w g (x :: r) size long) (hB : Below w0.heap.size w0 w) (hs : isB (x :: r) s = true) :
    Calls Try.prog 99 #[.pointer (some ⟨g, 0, none⟩), .string s] w fun e w' => e = .returned (.bool true) ∧ IsRd w0 w' g r size long ∧ Below w0.heap.size w0 w' ∧ KeepBut w w' g none := by
  have HI := Aside0.mk hI
  have HB := Aside0.mk hB
  have hg := hI.ge
  obtain ⟨A, c, A', c', hc0, hf0, hcut, hnew⟩ := rd_next hI
  have HN := Aside0.mk hnew
  clear hI hB hnew hg
  go_enter Try.func99, Try.ntmps99
  go_wp2_with (go_at_call 111; (with_reducible refine (rd_is s HI.out HB.out).mono ?_); rintro e w' ⟨rfl, rfl⟩)
  go_ret
  exact ⟨rfl, HN.out, below_set HB.out HI.out.ge, (KeepBut.refl _ _ _).set_ _ _⟩
set_option maxHeartbeats 2000000 in
theorem rd_must_f (s : ByteArray) (hI : IsRd w0 w g l size long) (hB : Below w0.heap.size w0 w) (hs : isB l s = false) :
    Calls Try.prog 84 #[.pointer (some ⟨g, 0, none⟩), .string s] w fun e w' => e = .panicked (faultC l size) ∧ w' = w := by
  go_enter Try.func84, Try.ntmps84
  go_wp2_with (first | (go_at_call 99; (with_reducible refine (rd_has_f s hI hB hs).mono ?_); rintro e w' ⟨rfl, rfl⟩) | (go_at_call 79; (with_reducible refine (rd_fault hI hB).mono ?_); rintro e w' ⟨rfl, rfl⟩))
  exact ⟨rfl, rfl, rfl⟩
set_option maxHeartbeats 2000000 in
theorem rd_must_t (s : ByteArray) {x : Tok} {r : List Tok} (hI : IsRd w0 w g (x :: r) size long) (hB : Below w0.heap.size w0 w) (hs : isB (x :: r) s = true) :
    Calls Try.prog 84 #[.pointer (some ⟨g, 0, none⟩), .string s] w fun e w' => e = .returned (.tuple #[]) ∧ IsRd w0 w' g r size long ∧ Below w0.heap.size w0 w' ∧ KeepBut w w' g none := by
  go_enter Try.func84, Try.ntmps84
  go_wp2_with (go_at_call 99; (with_reducible refine (rd_has_t s hI hB hs).mono ?_); rintro e w' ⟨rfl, h1, h2, h3⟩)
  go_end0
  exact ⟨rfl, h1, h2, h3⟩
set_option maxHeartbeats 2000000 in
theorem rd_mine (hI : IsRd w0 w g l size long) (hB : Below w0.heap.size w0 w) :
    Calls Try.prog 107 #[.pointer (some ⟨g, 0, none⟩)] w fun e w' => e = .returned (.bool (mineB l)) ∧ Drawn0 w w' := by
  obtain ⟨A, c, hb, h1, h2, h3⟩ := hI
  have hc0 : w.cell? ⟨g, 0, none⟩ = some (.slice A l.length c) := (blk_cell hb 0).trans rfl
  cases l with
  | nil =>
    clear hb h1 h2 h3
    go_enter Try.func107, Try.ntmps107
    go_wp2
    go_ret
    exact ⟨rfl, Drawn0.refl _⟩
  | cons x l =>
    obtain ⟨ad, rfl, p0, p1, p2, p3⟩ := rd_head h3
    have q0 : w.cell? ad = some (.int .u8 x.f0) := pw_cell_below hB p0
    have q1 : w.cell? ⟨ad.block, ad.off + 1, none⟩ = some (.string x.f1) := pw_cell_below hB p1
    clear p0 p1 p2 p3 hb h1 h2 h3
    have hl : decide ((0 : Int) < ((l.length + 1 : Nat) : Int)) = true := decide_eq_true (by omega)
    have hl2 : decide (0 < l.length + 1) = true := decide_eq_true (by omega)
    unfold mineB
    cases k1 : x.f0 == 1 with
    | true =>
      go_enter Try.func107, Try.ntmps107
      go_wp2_with (go_at_call 14; (with_reducible refine (token_Keyword.calls x.f1 (kwTok x.f1) _ (kwTok_some x.f1)).mono ?_); rintro e w' ⟨rfl, ⟨nd, rfl⟩⟩)
      go_ret
      exact ⟨by simp [k1], ⟨_, rfl⟩⟩
    | false =>
      go_enter Try.func107, Try.ntmps107
      go_wp2
      go_ret
      exact ⟨by simp [k1], Drawn0.refl _⟩
end
end Go.Proofs.Ytlbchdalimngjaa.P
namespace Go.Proofs.Ytlbchdalimngjaa.P
open Go.RowKit Go.Proofs.YtlbchdalimngjaaW.PrintWords Go.Proofs.YtlbchdalimngjaaW.PrintLast Go.Proofs.YtlbchdalimngjaaW.PrintMore
set_option linter.unusedVariables false
set_option linter.unusedSimpArgs false
abbrev Twg := S43
def ofGo : List Twg → List (List Twg) → Bool → List Twg × Bool
  | t, [], g => (t, g)
  | t, p :: ps, g => if (t ++ p).length > 2048 then ((t ++ p).take 1, true) else ofGo (t ++ p) ps g
def ofS (x : Twg) (parts : List (List Twg)) (g : Bool) : List Twg × Bool := ofGo [⟨x.f0, (parts.length : Int), x.f2, x.f3⟩] parts g
theorem ofGo_len : ∀ (ps : List (List Twg)) (t : List Twg) (g : Bool), t.length ≤ 2048 → (ofGo t ps g).1.length ≤ 2048
  | [], t, g, h => h
  | p :: ps, t, g, h => by
    rw [ofGo]
    split
    · dsimp only
      rw [List.length_take]
      omega
    · exact ofGo_len ps _ g (by omega)
theorem ofS_len (x : Twg) (parts : List (List Twg)) (g : Bool) : (ofS x parts g).1.length ≤ 2048 := ofGo_len parts _ g (by simp)
section
variable {w0 w : World} {g : Nat} {l : List Tok} {size : Int} {long : Bool}
set_option maxHeartbeats 2000000 in
theorem rd_own_f (hI : IsRd w0 w g l size long) (hB : Below w0.heap.size w0 w) (hm : mineB l = false) :
    Calls Try.prog 85 #[.pointer (some ⟨g, 0, none⟩)] w fun e w' => e = .panicked (faultC l size) ∧ Drawn0 w w' := by
  have HI := Aside0.mk hI
  have HB := Aside0.mk hB
  have HM := Aside0.mk (rd_mine (l := l) hI hB)
  rw [hm] at HM
  clear hI hB hm
  go_enter Try.func85, Try.ntmps85
  go_wp2_with (first | (go_at_call 107; (with_reducible refine HM.out.mono ?_); rintro e w' ⟨rfl, ⟨nd, rfl⟩⟩) | (go_at_call 79; (with_reducible refine (rd_fault (HI.out.below (pw_below_drewN (Below.refl _ _) _)) (pw_below_drewN HB.out _)).mono ?_); rintro e w' ⟨rfl, rfl⟩))
  exact ⟨rfl, rfl, ⟨_, rfl⟩⟩
set_option maxHeartbeats 2000000 in
theorem rd_own_t {x : Tok} {r : List Tok} (hI : IsRd w0 w g (x :: r) size long) (hB : Below w0.heap.size w0 w) (hm : mineB (x :: r) = true) :
    Calls Try.prog 85 #[.pointer (some ⟨g, 0, none⟩)] w fun e w' => e = .returned (.string x.f1) ∧ IsRd w0 w' g r size long ∧ Below w0.heap.size w0 w' ∧ KeepBut w w' g none := by
  have HI := Aside0.mk hI
  have HB := Aside0.mk hB
  have HM := Aside0.mk (rd_mine (l := x :: r) hI hB)
  rw [hm] at HM
  obtain ⟨A, c, A', c', hc0, hf0, hcut, hnew⟩ := rd_next hI
  have HN := Aside0.mk hnew
  obtain ⟨A2, c2, hb, h1, h2, h3⟩ := hI
  have hc2 : w.cell? ⟨g, 0, none⟩ = some (.slice A2 (r.length + 1) c2) := (blk_cell hb 0).trans rfl
  rw [hc0] at hc2
  injection hc2 with hc2
  injection hc2 with e1 _ e2
  subst e1 e2
  obtain ⟨ad, rfl, p0, p1, p2, p3⟩ := rd_head h3
  have q1 : w.cell? ⟨ad.block, ad.off + 1, none⟩ = some (.string x.f1) := pw_cell_below hB p1
  clear p0 p1 p2 p3 hb h1 h2 h3 hB hm hnew
  have hl2 : decide (0 < r.length + 1) = true := decide_eq_true (by omega)
  go_enter Try.func85, Try.ntmps85
  go_wp2_with (go_at_call 107; (with_reducible refine HM.out.mono ?_); rintro e w' ⟨rfl, ⟨nd, rfl⟩⟩)
  go_ret
  exact ⟨rfl, HN.out, below_set (pw_below_drewN HB.out _) HI.out.ge, ((KeepBut.refl _ _ _).set_ _ _)⟩
set_option maxHeartbeats 8000000 in
set_option maxRecDepth 100000 in
theorem rd_of (x : Twg) {A : Option Addr} {c : Nat} {parts : List (List Twg)} (hI : IsRd w0 w g l size long) (hB : Below w0.heap.size w0 w)
    (hr : ∀ W_, KeepBut w W_ g none → Kd.C (Kd.slice 43 k43) W_ A parts.length parts) (hc : parts.length ≤ c) (hn : parts.length ≤ 1000000) (hp : ∀ p ∈ parts, p.length ≤ 2048) :
    Calls Try.prog 88 #[.pointer (some ⟨g, 0, none⟩), .agg #[.int .u8 x.f0, .int .i64 x.f1, .int .i64 x.f2, .string x.f3], .slice A parts.length c] w
      fun e w' => ∃ v, e = .returned v ∧ Kd.R k43 43 w' w.heap.size (fun _ => True) v (ofS x parts long).1 ∧ IsRd w0 w' g l size (ofS x parts long).2 ∧ Below w0.heap.size w0 w' ∧ KeepBut w w' g none := by
  have hu43 := Try.underlying43
  have HI := Aside0.mk hI
  have HB := Aside0.mk hB
  have HR := Aside0.mk hr
  have HP := Aside0.mk hp
  have HN := Aside0.mk hn
  clear hI hB hr hp hn
  obtain ⟨x0, x1, x2, x3⟩ := x
  dsimp only
  go_enter Try.func88, Try.ntmps88
  go_upto_region 2 with (((with_reducible refine gate_dst (N := 4) rfl ?_); refine box_event ?hg (N := 4) ?hd (cs := #[.int .u8 x0, .int .i64 x1, .int .i64 x2, .string x3]) (t := 43) ?hr ?_; (case hd => rfl); (case hg => rfl); (case hr => first | (go_simp; done) | (go_simp; rfl)); intro gb hg w1 hbox hb; have hcb1 : w1.cell? ⟨gb, 1, none⟩ = some (.int .i64 x1) := (blk_cell hbox 1).trans rfl; have hfb1 := blk_frozen hbox 1; have BX := Aside0.mk hbox; have BB := Aside0.mk hb; have GX := Aside0.mk hg; clear hbox hb hg))
  obtain ⟨w2, hw2⟩ : ∃ w2 : World, w2 = w1.setCell ⟨gb, 1, none⟩ (.int .i64 (parts.length : Int)) := ⟨_, rfl⟩
  have BX2 : w2.heap[gb]? = some (.cells #[.int .u8 x0, .int .i64 (parts.length : Int), .int .i64 x2, .string x3] 43 (0, 0)) := by rw [hw2]; exact blk_set BX.out 1 _
  have BB2 : Below w.heap.size w w2 := by rw [hw2]; exact below_set BB.out (Nat.le_of_eq GX.out.symm)
  rw [← hw2]
  have hcb0 : w2.cell? ⟨gb, 0, none⟩ = some (.int .u8 x0) := (blk_cell BX2 0).trans rfl
  have hcc1 : w2.cell? ⟨gb, 1, none⟩ = some (.int .i64 (parts.length : Int)) := (blk_cell BX2 1).trans rfl
  have hcb2 : w2.cell? ⟨gb, 2, none⟩ = some (.int .i64 x2) := (blk_cell BX2 2).trans rfl
  have hcb3 : w2.cell? ⟨gb, 3, none⟩ = some (.string x3) := (blk_cell BX2 3).trans rfl
  clear hw2 hcb1 hfb1 BX BX2
  have BZ := Aside0.mk BB2
  clear BB2
  go_upto_region 3 with (((with_reducible refine gate_dst (N := 14) rfl ?_); refine Kd.R_lit k43 _ 43 ?hg (N := 14) ?hd (xs := ([(⟨x0, (parts.length : Int), x2, x3⟩ : Twg)] : List Twg)) (inner := [.int .u8 x0, .int .i64 (parts.length : Int), .int .i64 x2, .string x3]) (ok := fun _ => True) (okp := fun _ => True) ?hr ?hp (fun _ hk => hk) trivial (Below.refl _ _) (Nat.le_refl _) (by simp) ?_; (case hd => rfl); (case hg => rfl); (case hr => first | (go_simp; done) | (go_simp; rfl)); (case hp => exact (Reps.c4 (show Kd.M k43 _ _ _ (⟨x0, (parts.length : Int), x2, x3⟩ : Twg) [.int .u8 x0, .int .i64 (parts.length : Int), .int .i64 x2, .string x3] from (k43_mkM _ _ _ (⟨x0, (parts.length : Int), x2, x3⟩ : Twg))) (Reps.none _ _))); intro v0 w3 ho hb _ _; have HO := Aside0.mk (Kd.R_lower ho BZ.out.size); have BY := Aside0.mk (below_step BZ.out hb); clear ho hb))
  clear BB BZ hcb0 hcc1 hcb2 hcb3 GX
  go_wp2
  go_loopw [7, 17] (fun v i wr => ∃ (j : Nat) (t : List Twg), i = .int .i64 (j : Int) ∧ Aside0 (j ≤ parts.length) ∧ Aside0 (ofGo t (parts.drop j) long = ofS ⟨x0, x1, x2, x3⟩ parts long) ∧ Aside0 (t.length ≤ 2048) ∧ Aside0 (Kd.R k43 43 wr w.heap.size (fun _ => True) v t) ∧ Aside0 (Below w.heap.size w wr)) (fun _ i _ => parts.length - (intOf i).toNat)
  case atStart => exact ⟨0, _, rfl, ⟨Nat.zero_le _⟩, ⟨rfl⟩, ⟨by simp⟩, HO, BY⟩
  case round =>
    clear HO BY
    obtain ⟨j, t, rfl, HJ, HS, HT, HO, HBW⟩ := hrel
    obtain ⟨At, ct, et⟩ := Kd.R_slice HO.out
    subst et
    by_cases hlt : j < parts.length
    · have c1 : decide (j < parts.length) = true := decide_eq_true (by omega)
      obtain ⟨p, hpd⟩ : ∃ p, p = parts[j] := ⟨_, rfl⟩
      have hps : parts.drop j = p :: parts.drop (j + 1) := by rw [hpd]; exact List.drop_eq_getElem_cons hlt
      have hpl : p.length ≤ 2048 := HP.out p (by rw [hpd]; exact List.getElem_mem hlt)
      obtain ⟨ad, A0, c0, eA, hx, hl0, hC0⟩ := at_L6 (HR.out _ (KeepBut.of_below HBW.out g none)) (j : Int) (by omega) (by omega)
      have hrd : rd_L6 parts (j : Int) = p := by
        rw [hpd]
        unfold rd_L6
        rw [List.getD_eq_getElem?_getD, Int.toNat_natCast, List.getElem?_eq_getElem hlt]
        rfl
      rw [hrd] at hx hl0 hC0
      rw [Int.toNat_natCast] at hx
      subst eA
      have S1 := HS.out
      rw [hps, ofGo] at S1
      obtain ⟨y, hy⟩ : ∃ y, y = t ++ p := ⟨_, rfl⟩
      rw [← hy] at S1
      have NY := Aside0.mk hy
      clear hy
      have HC0 := Aside0.mk hC0
      have HPL := Aside0.mk hpl
      have HLT := Aside0.mk hlt
      have q1 : (j < parts.length) = True := eq_true hlt
      clear hpd hps hrd hC0 hl0 hpl HS hlt
      have cw : (j : Int) ≤ 1000000 := by have := HN.out; have := HLT.out; omega
      by_cases hbig : y.length > 2048
      · rw [if_pos hbig] at S1
        have HS := Aside0.mk S1
        have c2 : decide (2048 < y.length) = true := decide_eq_true hbig
        obtain ⟨i0, hi0, _, hsz0, _⟩ := info_parts info43
        have c3 : decide ((2048 : Int) < (y.length : Int)) = true := decide_eq_true (by omega)
        have HBIG := Aside0.mk hbig
        clear S1 hbig
        go_wp2_with ((with_reducible refine gate_builtin (b := .append) (xs := #[.tmp 21, .tmp 22]) rfl ?_); at_builtin; refine Kd.R_append_rows k43 (w0 := w) w.heap.size rfl (.tmp 21) (.tmp 22) 36 43 (.agg #[(.int .u8 0), (.int .i64 0), (.int .i64 0), (.string ⟨#[]⟩)]) 40 rfl Try.underlying36 info43 rfl (by decide) (by omega) (.slice At t.length ct) t p _ _ _ (fun _ => True) (fun _ => False) rfl rfl ?aO ?aR (fun _ _ h => h) (fun _ h => h.elim) ?aF ?aB ?aS ?aL ?_; (case aR => exact HC0.out); (case aB => exact HBW.out); (case aF => exact (fun _ _ => trivial)); (case aO => exact HO.out); (case aS => exact HBW.out.size); (case aL => have := HT.out; have := HPL.out; omega); intro v1 w5 ho hb _ _; rw [← NY.out] at ho; have HO5 := Aside0.mk ho; have HB5 := Aside0.mk hb; clear ho hb; obtain ⟨A5, c5, e5⟩ := Kd.R_slice HO5.out; subst e5; have H5 := Aside0.mk (HI.out.below HB5.out); obtain ⟨Ag, cg, hbg, hgg, _, _⟩ := H5.out; have hfg := blk_frozen hbg 2; have hcg : w5.cell? ⟨g, 2, none⟩ = some (.bool long) := (blk_cell hbg 2).trans rfl; clear hbg hgg; have hcut := cut_to (P := Try.prog) 36 43 .i64 Try.underlying36 hi0 A5 y.length c5 1 (by omega) (by have := HBIG.out; omega) (by obtain ⟨_, h, _⟩ := Kd.R_reads' HO5.out; exact h))
        go_ret
        refine ⟨_, rfl, ?_, ?_, ?_, ?_⟩
        · rw [← HS.out]
          refine Kd.R_mono (Kd.R_keep (Kd.R_bound (Kd.R_take HO5.out (m := 1) (by have := HBIG.out; omega))) ((KeepBut.refl _ g none).set_ 2 (.bool true)) (fun k hk => ?_)) (fun _ _ => trivial)
          have := HI.out.lt
          have := hk.2.1
          omega
        · rw [← HS.out]
          exact H5.out.setLong true
        · exact below_set (below_step HB.out HB5.out) HI.out.ge
        · exact (KeepBut.of_below HB5.out g none).set_ _ _
      · rw [if_neg hbig] at S1
        have HS := Aside0.mk S1
        have c2 : decide (2048 < y.length) = false := decide_eq_false hbig
        have c3 : decide ((2048 : Int) < (y.length : Int)) = false := decide_eq_false (by omega)
        have HBIG := Aside0.mk hbig
        clear S1 hbig
        go_wp2_with ((with_reducible refine gate_builtin (b := .append) (xs := #[.tmp 21, .tmp 22]) rfl ?_); at_builtin; refine Kd.R_append_rows k43 (w0 := w) w.heap.size rfl (.tmp 21) (.tmp 22) 36 43 (.agg #[(.int .u8 0), (.int .i64 0), (.int .i64 0), (.string ⟨#[]⟩)]) 40 rfl Try.underlying36 info43 rfl (by decide) (by omega) (.slice At t.length ct) t p _ _ _ (fun _ => True) (fun _ => False) rfl rfl ?aO ?aR (fun _ _ h => h) (fun _ h => h.elim) ?aF ?aB ?aS ?aL ?_; (case aR => exact HC0.out); (case aB => exact HBW.out); (case aF => exact (fun _ _ => trivial)); (case aO => exact HO.out); (case aS => exact HBW.out.size); (case aL => have := HT.out; have := HPL.out; omega); intro v1 w5 ho hb _ _; rw [← NY.out] at ho; have HO5 := Aside0.mk ho; have HB5 := Aside0.mk hb; clear ho hb; obtain ⟨A5, c5, e5⟩ := Kd.R_slice HO5.out; subst e5; have H5 := Aside0.mk (HI.out.below HB5.out); obtain ⟨Ag, cg, hbg, hgg, _, _⟩ := H5.out; have hfg := blk_frozen hbg 2; have hcg : w5.cell? ⟨g, 2, none⟩ = some (.bool long) := (blk_cell hbg 2).trans rfl; clear hbg hgg)
        go_roundw
        case rel => exact ⟨j + 1, y, by go_num, ⟨by have := HLT.out; omega⟩, HS, ⟨by have := HBIG.out; omega⟩, HO5, HB5⟩
        case measure => have := HLT.out; simp [intOf]; omega
    · have c1 : decide (j < parts.length) = false := decide_eq_false (by omega)
      have S1 := HS.out
      rw [List.drop_eq_nil_of_le (by omega), ofGo] at S1
      have HS := Aside0.mk S1
      clear S1 hlt
      go_wp2
      go_ret
      exact ⟨_, rfl, by rw [← HS.out]; exact HO.out, by rw [← HS.out]; exact HI.out.below HBW.out, below_step HB.out HBW.out, KeepBut.of_below HBW.out g none⟩
end
end Go.Proofs.Ytlbchdalimngjaa.P
namespace Go.Proofs.Ytlbchdalimngjaa.P
open Go.RowKit Go.Proofs.YtlbchdalimngjaaW.PrintWords Go.Proofs.YtlbchdalimngjaaW.PrintLast
set_option linter.unusedVariables false
set_option linter.unusedSimpArgs false
inductive Rz (α : Type) where
  | ok (a : α) (l : List Tok) (g : Bool)
  | bad (l : List Tok)
abbrev Res := Rz (List Twg)
def andThen {α β : Type} (o : Option (Rz α)) (f : α → List Tok → Bool → Option (Rz β)) : Option (Rz β) := match o with
  | none => none
  | some (.bad l) => some (.bad l)
  | some (.ok a l g) => f a l g
def mkS (x : Twg) (ps : List (List Twg)) (l : List Tok) (g : Bool) : Option Res := some (.ok (ofS x ps g).1 l (ofS x ps g).2)
def mustS {α : Type} (s : ByteArray) (l : List Tok) (f : List Tok → Option (Rz α)) : Option (Rz α) := if isB l s = true then f l.tail else some (.bad l)
def ownS {α : Type} (l : List Tok) (f : ByteArray → List Tok → Option (Rz α)) : Option (Rz α) := match l with
  | [] => some (.bad [])
  | x :: r => if mineB (x :: r) = true then f x.f1 r else some (.bad (x :: r))
def op1 (op : Int) : Twg := ⟨op, 0, 0, ⟨#[]⟩⟩
def opT (op : Int) (s : ByteArray) : Twg := ⟨op, 0, 0, s⟩
def sgW : Nat → List ByteArray
  | 0 => [(⟨#[111, 114]⟩ : ByteArray)]
  | 1 => [(⟨#[97, 110, 100]⟩ : ByteArray)]
  | 2 => [(⟨#[61, 61]⟩ : ByteArray), (⟨#[33, 61]⟩ : ByteArray), (⟨#[60]⟩ : ByteArray), (⟨#[60, 61]⟩ : ByteArray)]
  | 3 => [(⟨#[43]⟩ : ByteArray), (⟨#[45]⟩ : ByteArray)]
  | 4 => [(⟨#[42]⟩ : ByteArray), (⟨#[47]⟩ : ByteArray), (⟨#[37]⟩ : ByteArray)]
  | _ => []
def sgO : Nat → List Int
  | 0 => [30]
  | 1 => [31]
  | 2 => [32, 33, 34, 35]
  | 3 => [36, 37]
  | 4 => [38, 39, 40]
  | _ => []
def signGo (l : List Tok) : List ByteArray → List Int → Option Int
  | s :: ss, op :: os => if isB l s = true then some op else signGo l ss os
  | _, _ => none
def signAt (lv : Nat) (l : List Tok) : Option Int := signGo l (sgW lv) (sgO lv)
def parS : Nat → List (List Twg) → List Tok → Bool → Option (Rz (List (List Twg)))
  | 0, _, _, _ => none
  | k + 1, acc, l, g => ownS l fun s l => if isB l (⟨#[41]⟩ : ByteArray) = true then some (.ok (acc ++ [[opT 2 s]]) l.tail g) else mustS (⟨#[44]⟩ : ByteArray) l fun l => parS k (acc ++ [[opT 2 s]]) l g
mutual
def levS : Nat → Nat → List Tok → Bool → Option Res
  | 0, _, _, _ => none
  | k + 1, lv, l, g => if lv ≥ 5 then preS k l g else if lv = 2 ∧ isB l (⟨#[110, 111, 116]⟩ : ByteArray) = true then andThen (levS k 2 l.tail g) fun t l g => mkS (op1 43) [t] l g else andThen (levS k (lv + 1) l g) fun t l g => leftS k lv t l g
def leftS : Nat → Nat → List Twg → List Tok → Bool → Option Res
  | 0, _, _, _, _ => none
  | k + 1, lv, t, l, g => match signAt lv l with
    | none => some (.ok t l g)
    | some op => andThen (levS k (lv + 1) l.tail g) fun u l g => if lv = 2 then mkS (op1 op) [t, u] l g else leftS k lv (ofS (op1 op) [t, u] g).1 l (ofS (op1 op) [t, u] g).2
def preS : Nat → List Tok → Bool → Option Res
  | 0, _, _ => none
  | k + 1, l, g => if isB l (⟨#[45]⟩ : ByteArray) = true then andThen (preS k l.tail g) fun t l g => mkS (op1 44) [t] l g else if isB l (⟨#[97, 119, 97, 105, 116]⟩ : ByteArray) = true then andThen (preS k l.tail g) fun t l g => mkS (op1 54) [t] l g else if isB l (⟨#[115, 101, 116, 116, 108, 101]⟩ : ByteArray) = true then andThen (preS k l.tail g) fun t l g => mkS (op1 55) [t] l g else andThen (primS k l g) fun t l g => idxS k t l g
def idxS : Nat → List Twg → List Tok → Bool → Option Res
  | 0, _, _, _ => none
  | k + 1, t, l, g => if isB l (⟨#[91]⟩ : ByteArray) = true then andThen (levS k 0 l.tail g) fun u l g => mustS (⟨#[93]⟩ : ByteArray) l fun l => idxS k (ofS (op1 42) [t, u] g).1 l (ofS (op1 42) [t, u] g).2 else some (.ok t l g)
def listS : Nat → ByteArray → List (List Twg) → List Tok → Bool → Option (Rz (List (List Twg)))
  | 0, _, _, _, _ => none
  | k + 1, e, acc, l, g => andThen (levS k 0 l g) fun t l g => if isB l e = true then some (.ok (acc ++ [t]) l.tail g) else mustS (⟨#[44]⟩ : ByteArray) l fun l => listS k e (acc ++ [t]) l g
def oneS : Nat → Int → List Tok → Bool → Option Res
  | 0, _, _, _ => none
  | k + 1, op, l, g => mustS (⟨#[40]⟩ : ByteArray) l fun l => andThen (levS k 0 l g) fun t l g => mustS (⟨#[41]⟩ : ByteArray) l fun l => mkS (op1 op) [t] l g
def primS : Nat → List Tok → Bool → Option Res
  | 0, _, _ => none
  | k + 1, l, g => match l with
    | [] => some (.bad [])
    | x :: r => if x.f0 = 2 then some (.ok [⟨23, 0, x.f2, ⟨#[]⟩⟩] r g) else if x.f0 = 3 then some (.ok [opT 24 x.f1] r g) else if mineB (x :: r) = true then some (.ok [opT 26 x.f1] r g) else wordS k (x :: r) g
def wordS : Nat → List Tok → Bool → Option Res
  | 0, _, _ => none
  | k + 1, l, g => if isB l (⟨#[110, 111, 110, 101]⟩ : ByteArray) = true then (some (.ok [op1 20] l.tail g)) else
      if isB l (⟨#[116, 114, 117, 101]⟩ : ByteArray) = true then (some (.ok [op1 21] l.tail g)) else
      if isB l (⟨#[102, 97, 108, 115, 101]⟩ : ByteArray) = true then (some (.ok [op1 22] l.tail g)) else
      if isB l (⟨#[118, 101, 114, 115, 105, 111, 110]⟩ : ByteArray) = true then (some (.ok [op1 57] l.tail g)) else
      if isB l (⟨#[91]⟩ : ByteArray) = true then (if isB l.tail (⟨#[93]⟩ : ByteArray) = true then mkS (op1 25) [] l.tail.tail g else andThen (listS k (⟨#[93]⟩ : ByteArray) [] l.tail g) fun ps l g => mkS (op1 25) ps l g) else
      if isB l (⟨#[40]⟩ : ByteArray) = true then (andThen (levS k 0 l.tail g) fun t l g => mustS (⟨#[41]⟩ : ByteArray) l fun l => some (.ok t l g)) else
      if isB l (⟨#[108, 101, 110]⟩ : ByteArray) = true then (oneS k 45 l.tail g) else
      if isB l (⟨#[114, 101]⟩ : ByteArray) = true then (oneS k 46 l.tail g) else
      if isB l (⟨#[105, 109]⟩ : ByteArray) = true then (oneS k 47 l.tail g) else
      if isB l (⟨#[99, 111, 110, 106]⟩ : ByteArray) = true then (oneS k 48 l.tail g) else
      if isB l (⟨#[116, 105, 109, 101, 114]⟩ : ByteArray) = true then (oneS k 52 l.tail g) else
      if isB l (⟨#[110, 117, 109]⟩ : ByteArray) = true then (mustS (⟨#[40]⟩ : ByteArray) l.tail fun l => andThen (levS k 0 l g) fun a l g => mustS (⟨#[44]⟩ : ByteArray) l fun l => andThen (levS k 0 l g) fun b l g => mustS (⟨#[41]⟩ : ByteArray) l fun l => mkS (op1 41) [a, b] l g) else
      if isB l (⟨#[102, 111, 114, 107]⟩ : ByteArray) = true then (andThen (blockS k l.tail g) fun t l g => mkS (op1 53) [t] l g) else
      if isB l (⟨#[116, 97, 107, 101]⟩ : ByteArray) = true then (ownS l.tail fun s l => some (.ok [opT 56 s] l g)) else
      if isB l (⟨#[99, 97, 108, 108]⟩ : ByteArray) = true then (ownS l.tail fun s l => mustS (⟨#[40]⟩ : ByteArray) l fun l => if isB l (⟨#[41]⟩ : ByteArray) = true then mkS (opT 50 s) [] l.tail g else andThen (listS k (⟨#[41]⟩ : ByteArray) [] l g) fun ps l g => mkS (opT 50 s) ps l g) else
      if isB l (⟨#[99, 104, 105, 108, 100]⟩ : ByteArray) = true then (ownS l.tail fun s l => mustS (⟨#[40]⟩ : ByteArray) l fun l => if isB l (⟨#[41]⟩ : ByteArray) = true then mkS (opT 51 s) [] l.tail g else andThen (listS k (⟨#[41]⟩ : ByteArray) [] l g) fun ps l g => mkS (opT 51 s) ps l g) else
      some (.bad l)
def blockS : Nat → List Tok → Bool → Option Res
  | 0, _, _ => none
  | k + 1, l, g => mustS (⟨#[123]⟩ : ByteArray) l fun l => stmtsS k [] l g
def stmtsS : Nat → List (List Twg) → List Tok → Bool → Option Res
  | 0, _, _, _ => none
  | k + 1, acc, l, g => if isB l (⟨#[125]⟩ : ByteArray) = true then mkS (op1 3) acc l.tail g else andThen (stmtS k l g) fun t l g => stmtsS k (acc ++ [t]) l g
def stmtS : Nat → List Tok → Bool → Option Res
  | 0, _, _ => none
  | k + 1, l, g => if mineB l = true then (ownS l fun s l => mustS (⟨#[61]⟩ : ByteArray) l fun l => andThen (levS k 0 l g) fun t l g => mkS (opT 5 s) [t] l g) else
      if isB l (⟨#[108, 101, 116]⟩ : ByteArray) = true then (ownS l.tail fun s l => mustS (⟨#[61]⟩ : ByteArray) l fun l => andThen (levS k 0 l g) fun t l g => mkS (opT 4 s) [t] l g) else
      if isB l (⟨#[105, 102]⟩ : ByteArray) = true then (andThen (levS k 0 l.tail g) fun c l g => andThen (blockS k l g) fun b l g => if isB l (⟨#[101, 108, 115, 101]⟩ : ByteArray) = true then (andThen (blockS k l.tail g) fun d l g => mkS (op1 6) [c, b, d] l g) else mkS (op1 6) [c, b] l g) else
      if isB l (⟨#[119, 104, 105, 108, 101]⟩ : ByteArray) = true then (andThen (levS k 0 l.tail g) fun c l g => andThen (blockS k l g) fun b l g => mkS (op1 7) [c, b] l g) else
      if isB l (⟨#[114, 101, 116, 117, 114, 110]⟩ : ByteArray) = true then (andThen (levS k 0 l.tail g) fun t l g => mkS (op1 8) [t] l g) else
      if isB l (⟨#[102, 97, 105, 108]⟩ : ByteArray) = true then (andThen (levS k 0 l.tail g) fun t l g => mkS (op1 9) [t] l g) else
      if isB l (⟨#[115, 108, 101, 101, 112]⟩ : ByteArray) = true then (andThen (levS k 0 l.tail g) fun t l g => mkS (op1 10) [t] l g) else
      if isB l (⟨#[100, 111]⟩ : ByteArray) = true then (andThen (levS k 0 l.tail g) fun t l g => mkS (op1 11) [t] l g) else
      some (.bad l)
end
def flowS (k : Nat) (l : List Tok) (g : Bool) : Option Res := mustS (⟨#[102, 108, 111, 119]⟩ : ByteArray) l fun l => ownS l fun s l => mustS (⟨#[40]⟩ : ByteArray) l fun l => andThen (if isB l (⟨#[41]⟩ : ByteArray) = true then some (.ok [] l.tail g) else parS k [] l g) fun ps l g => andThen (blockS k l g) fun b l g => mkS (opT 1 s) (ps ++ [b]) l g
end Go.Proofs.Ytlbchdalimngjaa.P
namespace Go.Proofs.Ytlbchdalimngjaa.P
open Go.RowKit Go.Proofs.YtlbchdalimngjaaW.PrintWords Go.Proofs.YtlbchdalimngjaaW.PrintLast Go.Proofs.YtlbchdalimngjaaW.PrintMore
set_option linter.unusedVariables false
set_option linter.unusedSimpArgs false
def Tr (w W : World) (v : Value) (t : List Twg) : Prop := Kd.R k43 43 W w.heap.size (fun _ => True) v t ∧ t.length ≤ 2048
def Keeps (w0 w W : World) (g : Nat) (l : List Tok) (size : Int) (long : Bool) : Prop := IsRd w0 W g l size long ∧ Below w0.heap.size w0 W ∧ KeepBut w W g none
def PostR (w0 w : World) (g : Nat) (size : Int) : Res → Ending → World → Prop
  | .ok t l lg, e, w' => ∃ A c, e = .returned (.slice A t.length c) ∧ Tr w w' (.slice A t.length c) t ∧ Keeps w0 w w' g l size lg
  | .bad l, e, w' => e = .panicked (faultC l size) ∧ Below w0.heap.size w0 w'
section
variable {w0 w W W1 : World} {g : Nat} {l : List Tok} {size : Int} {long : Bool} {v : Value} {t : List Twg}
theorem Tr.foot (h : Tr w W v t) (hg : g < w.heap.size) : ∃ A c, v = .slice A t.length c ∧ t.length ≤ c ∧ ∀ W_, KeepBut W W_ g none → Kd.C k43 W_ A t.length t := by
  obtain ⟨A, c, rfl⟩ := Kd.R_slice h.1
  refine ⟨A, c, rfl, (Kd.R_reads' h.1).2.1, fun W_ hk => ?_⟩
  have := Kd.R_keep (Kd.R_bound h.1) hk (fun k hk => by have := hk.2.1; omega)
  exact (Kd.R_reads' this).2.2
theorem Tr.foot' {A : Option Addr} {c : Nat} (h : Tr w W (.slice A t.length c) t) (hg : g < w.heap.size) : t.length ≤ c ∧ ∀ W_, KeepBut W W_ g none → Kd.C k43 W_ A t.length t := by
  obtain ⟨A', c', e, h1, h2⟩ := h.foot hg
  injection e with e1 _ e2
  rw [e1, e2]
  exact ⟨h1, h2⟩
theorem PostR.ok_ {w' : World} {lg : Bool} (h : Tr w w' v t) (k : Keeps w0 w w' g l size lg) : PostR w0 w g size (.ok t l lg) (.returned v) w' := by
  obtain ⟨A, c, rfl⟩ := Kd.R_slice h.1
  exact ⟨A, c, rfl, h, k⟩
theorem Tr.keep (h : Tr w W v t) (hg : g < w.heap.size) (hk : KeepBut W W1 g none) : Tr w W1 v t :=
  ⟨Kd.R_mono (Kd.R_keep (Kd.R_bound h.1) hk (fun k hk => by have := hk.2.1; omega)) (fun _ _ => trivial), h.2⟩
theorem Tr.lower {w1 : World} (h : Tr w1 W v t) (hs : w.heap.size ≤ w1.heap.size) : Tr w W v t := ⟨Kd.R_lower h.1 hs, h.2⟩
theorem Keeps.then_ {l' : List Tok} {lg : Bool} (h : Keeps w0 w W g l size long) (k : Keeps w0 W W1 g l' size lg) : Keeps w0 w W1 g l' size lg := ⟨k.1, k.2.1, h.2.2.trans k.2.2 (.inl rfl)⟩
theorem Keeps.below (h : Keeps w0 w W g l size long) (k : Below W.heap.size W W1) : Keeps w0 w W1 g l size long :=
  ⟨h.1.below k, below_step h.2.1 k, h.2.2.trans (KeepBut.of_below k g none) (.inl rfl)⟩
theorem Keeps.drewN (h : Keeps w0 w W g l size long) (n : Nat) : Keeps w0 w (W.drewN n) g l size long := h.below (pw_below_drewN (Below.refl _ _) n)
theorem Keeps.refl (hI : IsRd w0 w g l size long) (hB : Below w0.heap.size w0 w) : Keeps w0 w w g l size long := ⟨hI, hB, KeepBut.refl _ _ _⟩
theorem Keeps.drew (h : Keeps w0 w W g l size long) : Keeps w0 w W.drew g l size long := h.below (below_drew1 (Below.refl _ _))
theorem Keeps.i (h : Keeps w0 w W g l size long) : IsRd w0 W g l size long := h.1
theorem Keeps.b (h : Keeps w0 w W g l size long) : Below w0.heap.size w0 W := h.2.1
theorem Keeps.k (h : Keeps w0 w W g l size long) : KeepBut w W g none := h.2.2
theorem Keeps.grows (h : Keeps w0 w W g l size long) : w.heap.size ≤ W.heap.size := h.2.2.1
theorem Keeps.alloc (h : Keeps w0 w W g l size long) (o : Obj) : Keeps w0 w (W.alloc o) g l size long := h.below (below_alloc (Below.refl _ _) o)
theorem lits_foot {b : Nat} {vs : List Value} {ts : List (List Twg)} (hb : W.heap[b]? = some (.cells vs.toArray 36 (0, 0))) (hbg : b ≠ g) (hl : vs.length = ts.length) (hn : ts.length ≤ 1000)
    (h : ∀ (j : Nat) v t, vs[j]? = some v → ts[j]? = some t → ∃ A c, v = .slice A t.length c ∧ t.length ≤ c ∧ ∀ W_, KeepBut W W_ g none → Kd.C k43 W_ A t.length t) :
    ∀ W_, KeepBut W W_ g none → Kd.C (Kd.slice 43 k43) W_ (some ⟨b, 0, none⟩) ts.length ts := by
  intro W_ hk
  refine ⟨rfl, by have : maxLen = 9223372036854775807 := rfl; omega, fun _ => ⟨_, rfl, fun j p hj => ?_⟩⟩
  have hjl : j < ts.length := by
    rcases Nat.lt_or_ge j ts.length with h | h
    · exact h
    · rw [List.getElem?_eq_none h] at hj; cases hj
  obtain ⟨v, hv⟩ : ∃ v, vs[j]? = some v := ⟨_, List.getElem?_eq_getElem (by omega)⟩
  obtain ⟨A, c, rfl, hc, hC⟩ := h j v p hv hj
  refine ⟨[.slice A p.length c], rfl, ⟨A, c, rfl, hc, hC W_ hk⟩, fun i u hu => ?_⟩
  have hb2 := hk.blk hb hbg (by simp)
  have hi : i = 0 := by
    cases i with
    | zero => rfl
    | succ i => cases hu
  subst hi
  obtain rfl := Option.some.inj hu
  have hj2 := blk_cell hb2 (j * 1 + 0)
  have e : (⟨b, 0, none⟩ : Addr).add (j * (Kd.slice 43 k43).sz + 0) = ⟨b, j * 1 + 0, none⟩ := by
    show (⟨b, 0, none⟩ : Addr).add (j * 1 + 0) = _
    rw [add_plain]
  rw [e, hj2]
  simp [hv]
end
section
variable {P : Program} {ops : Array Oper} {o : Oper} {a : Act} {Q : Exit → Act → World → Prop} {Kc : Act → World → Prop}
variable {rest : List Oper}
theorem lit_event {W : World} (hgd : o.guard = none) {N : Tmp} (_hd : o.dst = some N) {vs : List Value} {e : TypeId} {n : Nat}
    (hrun : (execOp a.eval o).run P W = .ok (.value (.slice (some ⟨W.heap.size, 0, none⟩) n n)) (W.alloc (.cells vs.toArray e (0, 0))))
    (h : ∀ g, g = W.heap.size → ∀ w1, w1.heap[g]? = some (.cells vs.toArray e (0, 0)) → Below W.heap.size W w1 → wpList P ops Q rest (a.put o.dst (.slice (some ⟨g, 0, none⟩) n n)) w1) : wpList P ops Q (o :: rest) a W :=
  Kd.event_run hgd hrun (h _ rfl _ (blk_new W _) (below_alloc (Below.refl _ _) _))
end
theorem calls_dies {P : Program} {f : FuncId} {args : Array Value} {w : World} {c : List PanicEntry} {R : World → Prop} (h : Calls P f args w fun e w' => e = .panicked c ∧ R w') {Q : Ending → World → Prop} (hp : ∀ w', R w' → Q (.panicked c) w')
    (hr : ∀ (A : Option Addr) (n m : Nat) (w' : World), False → Q (.returned (.slice A n m)) w') : Calls P f args w Q :=
  h.mono fun e w' ⟨h1, h2⟩ => by subst h1; exact hp w' h2
theorem calls_never {P : Program} {f : FuncId} {args : Array Value} {w : World} (h : False) {Q : Ending → World → Prop} (hr : ∀ (A : Option Addr) (n m : Nat) (w' : World), Q (.returned (.slice A n m)) w') : Calls P f args w Q := h.elim
end Go.Proofs.Ytlbchdalimngjaa.P
namespace Go.Proofs.Ytlbchdalimngjaa.P
open Go.RowKit Go.Proofs.YtlbchdalimngjaaW.PrintWords Go.Proofs.YtlbchdalimngjaaW.PrintLast
set_option linter.unusedVariables false
set_option linter.unusedSimpArgs false
theorem andThen_inv {α β : Type} {o : Option (Rz α)} {f : α → List Tok → Bool → Option (Rz β)} {r : Rz β} (h : andThen o f = some r) : (∃ a l g, o = some (.ok a l g) ∧ f a l g = some r) ∨ (∃ l, o = some (.bad l) ∧ r = .bad l) := by
  unfold andThen at h
  split at h
  · cases h
  · exact .inr ⟨_, rfl, (Option.some.inj h).symm⟩
  · exact .inl ⟨_, _, _, rfl, h⟩
theorem mustS_inv {α : Type} {s : ByteArray} {l : List Tok} {f : List Tok → Option (Rz α)} {r : Rz α} (h : mustS s l f = some r) : (∃ x l', l = x :: l' ∧ isB (x :: l') s = true ∧ f l' = some r) ∨ (isB l s = false ∧ r = .bad l) := by
  unfold mustS at h
  split at h
  · rename_i hb
    obtain ⟨x, l', rfl⟩ := isB_cons hb
    exact .inl ⟨x, l', rfl, hb, h⟩
  · rename_i hb
    exact .inr ⟨Bool.eq_false_iff.2 hb, (Option.some.inj h).symm⟩
theorem ownS_inv {α : Type} {l : List Tok} {f : ByteArray → List Tok → Option (Rz α)} {r : Rz α} (h : ownS l f = some r) : (∃ x l', l = x :: l' ∧ mineB (x :: l') = true ∧ f x.f1 l' = some r) ∨ (mineB l = false ∧ r = .bad l) := by
  unfold ownS at h
  split at h
  · exact .inr ⟨rfl, (Option.some.inj h).symm⟩
  · split at h
    · rename_i hb
      exact .inl ⟨_, _, rfl, hb, h⟩
    · rename_i hb
      exact .inr ⟨Bool.eq_false_iff.2 hb, (Option.some.inj h).symm⟩
theorem ite_inv {α : Type} {c : Prop} [Decidable c] {a b : Option α} {r : α} (h : (if c then a else b) = some r) : (c ∧ a = some r) ∨ (¬ c ∧ b = some r) := by
  by_cases hc : c
  · rw [if_pos hc] at h; exact .inl ⟨hc, h⟩
  · rw [if_neg hc] at h; exact .inr ⟨hc, h⟩
def Sh (l : List Tok) : Res → Prop
  | .ok t l' _ => l' <:+ l ∧ l'.length < l.length ∧ t.length ≤ 2048
  | .bad l' => l' <:+ l
def ShE (l : List Tok) : Res → Prop
  | .ok t l' _ => l' <:+ l ∧ t.length ≤ 2048
  | .bad l' => l' <:+ l
def ShL (l : List Tok) : Rz (List (List Twg)) → Prop
  | .ok ts l' _ => l' <:+ l ∧ l'.length < l.length ∧ ts.length + l'.length ≤ l.length ∧ ∀ t ∈ ts, t.length ≤ 2048
  | .bad l' => l' <:+ l
theorem suf_tail {x : Tok} {l : List Tok} : l <:+ (x :: l) := List.suffix_cons x l
theorem Sh.mono {l m : List Tok} {r : Res} (h : Sh l r) (hs : l <:+ m) : Sh m r := by
  have := hs.length_le
  cases r with
  | ok t l' g => exact ⟨h.1.trans hs, by have := h.2.1; omega, h.2.2⟩
  | bad l' => exact h.trans hs
theorem ShE.sh {l m : List Tok} {r : Res} (h : ShE l r) (hs : l <:+ m) (hl : l.length < m.length) : Sh m r := by
  cases r with
  | ok t l' g => exact ⟨h.1.trans hs, by have := h.1.length_le; omega, h.2⟩
  | bad l' => exact h.trans hs
theorem ShE.mono {l m : List Tok} {r : Res} (h : ShE l r) (hs : l <:+ m) : ShE m r := by
  cases r with
  | ok t l' g => exact ⟨h.1.trans hs, h.2⟩
  | bad l' => exact h.trans hs
theorem Sh.e {l : List Tok} {r : Res} (h : Sh l r) : ShE l r := by
  cases r with
  | ok t l' g => exact ⟨h.1, h.2.2⟩
  | bad l' => exact h
theorem mk_she {x : Twg} {ps : List (List Twg)} {l : List Tok} {g : Bool} {r : Res} (h : mkS x ps l g = some r) : ShE l r := by
  obtain rfl := Option.some.inj h
  exact ⟨List.suffix_refl _, ofS_len _ _ _⟩
theorem ok_she {t : List Twg} {l : List Tok} {g : Bool} {r : Res} (ht : t.length ≤ 2048) (h : some (Rz.ok t l g) = some r) : ShE l r := by
  obtain rfl := Option.some.inj h
  exact ⟨List.suffix_refl _, ht⟩
theorem then_she {o : Option Res} {f : List Twg → List Tok → Bool → Option Res} {r : Res} {l : List Tok} (h : andThen o f = some r) (ho : ∀ q, o = some q → ShE l q) (hf : ∀ t l' g q, l' <:+ l → t.length ≤ 2048 → f t l' g = some q → ShE l' q) : ShE l r := by
  rcases andThen_inv h with ⟨a, l', g, h1, h2⟩ | ⟨l', h1, rfl⟩
  · have := ho _ h1
    exact (hf a l' g r this.1 this.2 h2).mono this.1
  · exact ho _ h1
theorem then_sh {o : Option Res} {f : List Twg → List Tok → Bool → Option Res} {r : Res} {l : List Tok} (h : andThen o f = some r) (ho : ∀ q, o = some q → Sh l q) (hf : ∀ t l' g q, l' <:+ l → t.length ≤ 2048 → f t l' g = some q → ShE l' q) : Sh l r := by
  rcases andThen_inv h with ⟨a, l', g, h1, h2⟩ | ⟨l', h1, rfl⟩
  · have := ho _ h1
    exact (hf a l' g r this.1 this.2.2 h2).sh this.1 this.2.1
  · exact ho _ h1
theorem thenL_she {o : Option (Rz (List (List Twg)))} {f : List (List Twg) → List Tok → Bool → Option Res} {r : Res} {l : List Tok} (h : andThen o f = some r) (ho : ∀ q, o = some q → ShL l q) (hf : ∀ ts l' g q, l' <:+ l → f ts l' g = some q → ShE l' q) : ShE l r := by
  rcases andThen_inv h with ⟨a, l', g, h1, h2⟩ | ⟨l', h1, rfl⟩
  · have := ho _ h1
    exact (hf a l' g r this.1 h2).mono this.1
  · exact ho _ h1
theorem must_she {s : ByteArray} {l : List Tok} {f : List Tok → Option Res} {r : Res} (h : mustS s l f = some r) (hf : ∀ x l' q, l = x :: l' → f l' = some q → ShE l' q) : ShE l r := by
  rcases mustS_inv h with ⟨x, l', rfl, _, h2⟩ | ⟨_, rfl⟩
  · exact (hf x l' r rfl h2).mono suf_tail
  · exact List.suffix_refl _
theorem must_sh {s : ByteArray} {l : List Tok} {f : List Tok → Option Res} {r : Res} (h : mustS s l f = some r) (hf : ∀ x l' q, l = x :: l' → f l' = some q → ShE l' q) : Sh l r := by
  rcases mustS_inv h with ⟨x, l', rfl, _, h2⟩ | ⟨_, rfl⟩
  · exact (hf x l' r rfl h2).sh suf_tail (by simp)
  · exact List.suffix_refl _
theorem own_she {l : List Tok} {f : ByteArray → List Tok → Option Res} {r : Res} (h : ownS l f = some r) (hf : ∀ s x l' q, l = x :: l' → f s l' = some q → ShE l' q) : ShE l r := by
  rcases ownS_inv h with ⟨x, l', rfl, _, h2⟩ | ⟨_, rfl⟩
  · exact (hf _ x l' r rfl h2).mono suf_tail
  · exact List.suffix_refl _
theorem own_sh {l : List Tok} {f : ByteArray → List Tok → Option Res} {r : Res} (h : ownS l f = some r) (hf : ∀ s x l' q, l = x :: l' → f s l' = some q → ShE l' q) : Sh l r := by
  rcases ownS_inv h with ⟨x, l', rfl, _, h2⟩ | ⟨_, rfl⟩
  · exact (hf _ x l' r rfl h2).sh suf_tail (by simp)
  · exact List.suffix_refl _
theorem tail_sh {l : List Tok} {s : ByteArray} {r : Res} (hb : isB l s = true) (h : ShE l.tail r) : Sh l r := by
  obtain ⟨x, l', rfl⟩ := isB_cons hb
  exact h.sh suf_tail (by simp)
theorem parS_sh : ∀ (k : Nat) (acc : List (List Twg)) (l : List Tok) (g : Bool) (r : Rz (List (List Twg))), (∀ t ∈ acc, t.length ≤ 2048) → parS k acc l g = some r → match r with
    | .ok ts l' _ => l' <:+ l ∧ l'.length < l.length ∧ ts.length + l'.length ≤ acc.length + l.length ∧ ∀ t ∈ ts, t.length ≤ 2048
    | .bad l' => l' <:+ l
  | 0, acc, l, g, r, ha, h => by simp [parS] at h
  | k + 1, acc, l, g, r, ha, h => by
    rw [parS] at h
    have hacc : ∀ s, ∀ t ∈ acc ++ [[opT 2 s]], t.length ≤ 2048 := by
      intro s t ht
      rcases List.mem_append.1 ht with ht | ht
      · exact ha t ht
      · rw [List.mem_singleton] at ht; rw [ht]; simp
    rcases ownS_inv h with ⟨x, l', rfl, _, h⟩ | ⟨_, rfl⟩
    · split at h
      · rename_i hb
        obtain ⟨y, l2, rfl⟩ := isB_cons hb
        obtain rfl := Option.some.inj h
        exact ⟨suf_tail.trans suf_tail, by simp; omega, by simp; omega, hacc _⟩
      · rcases mustS_inv h with ⟨y, l2, rfl, _, h⟩ | ⟨_, rfl⟩
        · have := parS_sh k _ l2 g r (hacc _) h
          cases r with
          | ok ts l3 g3 =>
            obtain ⟨a, b, c, d⟩ := this
            exact ⟨a.trans (suf_tail.trans suf_tail), by simp; omega, by simp at c ⊢; omega, d⟩
          | bad l3 => exact List.IsSuffix.trans this (suf_tail.trans suf_tail)
        · exact suf_tail
    · exact List.suffix_refl _
def AllSh (k : Nat) : Prop :=
  (∀ lv l g r, levS k lv l g = some r → Sh l r) ∧ (∀ lv t l g r, t.length ≤ 2048 → leftS k lv t l g = some r → ShE l r) ∧ (∀ l g r, preS k l g = some r → Sh l r) ∧ (∀ t l g r, t.length ≤ 2048 → idxS k t l g = some r → ShE l r) ∧
  (∀ e acc l g r, (∀ t ∈ acc, t.length ≤ 2048) → listS k e acc l g = some r → match r with
    | .ok ts l' _ => l' <:+ l ∧ l'.length < l.length ∧ ts.length + l'.length ≤ acc.length + l.length ∧ ∀ t ∈ ts, t.length ≤ 2048
    | .bad l' => l' <:+ l) ∧
  (∀ op l g r, oneS k op l g = some r → Sh l r) ∧ (∀ l g r, primS k l g = some r → Sh l r) ∧ (∀ l g r, wordS k l g = some r → Sh l r) ∧ (∀ l g r, blockS k l g = some r → Sh l r) ∧ (∀ acc l g r, stmtsS k acc l g = some r → Sh l r) ∧ (∀ l g r, stmtS k l g = some r → Sh l r)
theorem all_sh : ∀ k, AllSh k
  | 0 => by
    refine ⟨?_, ?_, ?_, ?_, ?_, ?_, ?_, ?_, ?_, ?_, ?_⟩ <;> intros <;> rename_i h <;> simp [levS, leftS, preS, idxS, listS, oneS, primS, wordS, blockS, stmtsS, stmtS] at h
  | k + 1 => by
    obtain ⟨A, L, P, I, LS, O, PR, W, B, SS, ST⟩ := all_sh k
    have hlist : ∀ e l g q, listS k e [] l g = some q → ShL l q := by
      intro e l g q h
      have := LS e [] l g q (by simp) h
      cases q with
      | ok ts l' g' => obtain ⟨a, b, c, d⟩ := this; exact ⟨a, b, by simpa using c, d⟩
      | bad l' => exact this
    refine ⟨?_, ?_, ?_, ?_, ?_, ?_, ?_, ?_, ?_, ?_, ?_⟩
    · intro lv l g r h
      rw [levS] at h
      split at h
      · exact P _ _ _ h
      split at h
      · rename_i hb
        exact tail_sh hb.2 (then_she h (fun q hq => (A _ _ _ _ hq).e) (fun t l' g q _ _ h => mk_she h))
      · exact then_sh h (fun q hq => A _ _ _ _ hq) (fun t l' g q _ ht h => L _ _ _ _ _ ht h)
    · intro lv t l g r ht h
      rw [leftS] at h
      split at h
      · exact ok_she ht h
      · rename_i op hop
        have hb : ∃ x l', l = x :: l' := by
          cases l with
          | cons x l' => exact ⟨x, l', rfl⟩
          | nil =>
            exfalso
            revert hop
            unfold signAt
            generalize sgW lv = ws
            generalize sgO lv = os
            intro hop
            induction ws generalizing os with
            | nil => simp [signGo] at hop
            | cons w ws ih =>
              cases os with
              | nil => simp [signGo] at hop
              | cons o os =>
                rw [signGo] at hop
                simp [isB] at hop
                exact ih os hop
        obtain ⟨x, l', rfl⟩ := hb
        refine ShE.mono (then_she h (fun q hq => (A _ _ _ _ hq).e) (fun u l2 g2 q _ hu h => ?_)) (l := l') suf_tail
        split at h
        · exact mk_she h
        · exact L _ _ _ _ _ (ofS_len _ _ _) h
    · intro l g r h
      rw [preS] at h
      split at h
      · rename_i hb
        exact tail_sh hb (then_she h (fun q hq => (P _ _ _ hq).e) (fun t l' g q _ _ h => mk_she h))
      split at h
      · rename_i hb
        exact tail_sh hb (then_she h (fun q hq => (P _ _ _ hq).e) (fun t l' g q _ _ h => mk_she h))
      split at h
      · rename_i hb
        exact tail_sh hb (then_she h (fun q hq => (P _ _ _ hq).e) (fun t l' g q _ _ h => mk_she h))
      · exact then_sh h (fun q hq => PR _ _ _ hq) (fun t l' g q _ ht h => I _ _ _ _ ht h)
    · intro t l g r ht h
      rw [idxS] at h
      split at h
      · rename_i hb
        exact (tail_sh hb (then_she h (fun q hq => (A _ _ _ _ hq).e) (fun u l' g q _ _ h => must_she h (fun x l2 q _ h => I _ _ _ _ (ofS_len _ _ _) h)))).e
      · exact ok_she ht h
    · intro e acc l g r ha h
      rw [listS] at h
      rcases andThen_inv h with ⟨t, l', g', h1, h⟩ | ⟨l', h1, rfl⟩
      · obtain ⟨a1, a2, a3⟩ := A _ _ _ _ h1
        have hacc : ∀ u ∈ acc ++ [t], u.length ≤ 2048 := by
          intro u hu
          rcases List.mem_append.1 hu with hu | hu
          · exact ha u hu
          · rw [List.mem_singleton] at hu; rw [hu]; exact a3
        split at h
        · rename_i hb
          obtain ⟨y, l2, rfl⟩ := isB_cons hb
          obtain rfl := Option.some.inj h
          simp only [List.length_cons, List.tail_cons] at a2 ⊢
          exact ⟨suf_tail.trans a1, by omega, by simp; omega, hacc⟩
        · rcases mustS_inv h with ⟨y, l2, rfl, _, h⟩ | ⟨_, rfl⟩
          · have := LS e _ l2 g' r hacc h
            simp only [List.length_cons] at a2
            cases r with
            | ok ts l3 g3 =>
              obtain ⟨a, b, c, d⟩ := this
              exact ⟨a.trans (suf_tail.trans a1), by omega, by simp at c ⊢; omega, d⟩
            | bad l3 => exact List.IsSuffix.trans this (suf_tail.trans a1)
          · exact a1
      · exact A _ _ _ _ h1
    · intro op l g r h
      rw [oneS] at h
      exact must_sh h (fun x l' q _ h => then_she h (fun q hq => (A _ _ _ _ hq).e) (fun t l2 g q _ _ h => must_she h (fun x l3 q _ h => mk_she h)))
    · intro l g r h
      cases l with
      | nil =>
        rw [primS] at h
        obtain rfl := Option.some.inj h; exact List.suffix_refl _
      | cons x l =>
      rw [primS] at h
      split at h
      · exact (ok_she (by simp) h).sh suf_tail (by simp)
      split at h
      · exact (ok_she (by simp) h).sh suf_tail (by simp)
      split at h
      · exact (ok_she (by simp) h).sh suf_tail (by simp)
      · exact W _ _ _ h
    · intro l g r h
      rw [wordS] at h
      rcases ite_inv h with ⟨hb, h⟩ | ⟨_, h⟩
      · exact tail_sh hb (ok_she (show [_].length ≤ 2048 by simp) h)
      rcases ite_inv h with ⟨hb, h⟩ | ⟨_, h⟩
      · exact tail_sh hb (ok_she (show [_].length ≤ 2048 by simp) h)
      rcases ite_inv h with ⟨hb, h⟩ | ⟨_, h⟩
      · exact tail_sh hb (ok_she (show [_].length ≤ 2048 by simp) h)
      rcases ite_inv h with ⟨hb, h⟩ | ⟨_, h⟩
      · exact tail_sh hb (ok_she (show [_].length ≤ 2048 by simp) h)
      rcases ite_inv h with ⟨hb, h⟩ | ⟨_, h⟩
      · refine tail_sh hb ?_
        rcases ite_inv h with ⟨hb2, h⟩ | ⟨_, h⟩
        · obtain ⟨y, l2, e⟩ := isB_cons hb2
          rw [e] at h ⊢
          exact (mk_she h).mono suf_tail
        · exact thenL_she h (fun q hq => hlist _ _ _ _ hq) (fun ts l' g q _ h => mk_she h)
      rcases ite_inv h with ⟨hb, h⟩ | ⟨_, h⟩
      · exact tail_sh hb (then_she h (fun q hq => (A _ _ _ _ hq).e) (fun t l' g q _ ht h => must_she h (fun x l2 q _ h => ok_she ht h)))
      rcases ite_inv h with ⟨hb, h⟩ | ⟨_, h⟩
      · exact tail_sh hb (O _ _ _ _ h).e
      rcases ite_inv h with ⟨hb, h⟩ | ⟨_, h⟩
      · exact tail_sh hb (O _ _ _ _ h).e
      rcases ite_inv h with ⟨hb, h⟩ | ⟨_, h⟩
      · exact tail_sh hb (O _ _ _ _ h).e
      rcases ite_inv h with ⟨hb, h⟩ | ⟨_, h⟩
      · exact tail_sh hb (O _ _ _ _ h).e
      rcases ite_inv h with ⟨hb, h⟩ | ⟨_, h⟩
      · exact tail_sh hb (O _ _ _ _ h).e
      rcases ite_inv h with ⟨hb, h⟩ | ⟨_, h⟩
      · exact tail_sh hb (must_she h (fun x l' q _ h => then_she h (fun q hq => (A _ _ _ _ hq).e) (fun a l2 g q _ _ h => must_she h (fun x l3 q _ h => then_she h (fun q hq => (A _ _ _ _ hq).e) (fun b l4 g q _ _ h => must_she h (fun x l5 q _ h => mk_she h))))))
      rcases ite_inv h with ⟨hb, h⟩ | ⟨_, h⟩
      · exact tail_sh hb (then_she h (fun q hq => (B _ _ _ hq).e) (fun t l' g q _ _ h => mk_she h))
      rcases ite_inv h with ⟨hb, h⟩ | ⟨_, h⟩
      · exact tail_sh hb (own_she h (fun s x l' q _ h => ok_she (show [_].length ≤ 2048 by simp) h))
      rcases ite_inv h with ⟨hb, h⟩ | ⟨_, h⟩
      · refine tail_sh hb (own_she h (fun s x l' q _ h => must_she h (fun x l2 q _ h => ?_)))
        rcases ite_inv h with ⟨hb2, h⟩ | ⟨_, h⟩
        · obtain ⟨y, l2, rfl⟩ := isB_cons hb2
          exact (mk_she h).mono suf_tail
        · exact thenL_she h (fun q hq => hlist _ _ _ _ hq) (fun ts l' g q _ h => mk_she h)
      rcases ite_inv h with ⟨hb, h⟩ | ⟨_, h⟩
      · refine tail_sh hb (own_she h (fun s x l' q _ h => must_she h (fun x l2 q _ h => ?_)))
        rcases ite_inv h with ⟨hb2, h⟩ | ⟨_, h⟩
        · obtain ⟨y, l2, rfl⟩ := isB_cons hb2
          exact (mk_she h).mono suf_tail
        · exact thenL_she h (fun q hq => hlist _ _ _ _ hq) (fun ts l' g q _ h => mk_she h)
      obtain rfl := Option.some.inj h
      exact List.suffix_refl _
    · intro l g r h
      rw [blockS] at h
      exact must_sh h (fun x l' q _ h => (SS _ _ _ _ h).e)
    · intro acc l g r h
      rw [stmtsS] at h
      split at h
      · rename_i hb; exact tail_sh hb (mk_she h)
      · exact then_sh h (fun q hq => ST _ _ _ hq) (fun t l' g q _ _ h => (SS _ _ _ _ h).e)
    · intro l g r h
      rw [stmtS] at h
      split at h
      · exact own_sh h (fun s x l' q _ h => must_she h (fun x l2 q _ h => then_she h (fun q hq => (A _ _ _ _ hq).e) (fun t l' g q _ _ h => mk_she h)))
      split at h
      · rename_i hb
        exact tail_sh hb (own_she h (fun s x l' q _ h => must_she h (fun x l2 q _ h => then_she h (fun q hq => (A _ _ _ _ hq).e) (fun t l' g q _ _ h => mk_she h))))
      split at h
      · rename_i hb
        refine tail_sh hb (then_she h (fun q hq => (A _ _ _ _ hq).e) (fun c l' g q _ _ h => then_she h (fun q hq => (B _ _ _ hq).e) (fun b l2 g q _ _ h => ?_)))
        split at h
        · rename_i hb2
          obtain ⟨y, l3, rfl⟩ := isB_cons hb2
          exact (then_she h (fun q hq => (B _ _ _ hq).e) (fun d l4 g q _ _ h => mk_she h)).mono suf_tail
        · exact mk_she h
      split at h
      · rename_i hb
        exact tail_sh hb (then_she h (fun q hq => (A _ _ _ _ hq).e) (fun c l' g q _ _ h => then_she h (fun q hq => (B _ _ _ hq).e) (fun b l2 g q _ _ h => mk_she h)))
      split at h
      · rename_i hb; exact tail_sh hb (then_she h (fun q hq => (A _ _ _ _ hq).e) (fun t l' g q _ _ h => mk_she h))
      split at h
      · rename_i hb; exact tail_sh hb (then_she h (fun q hq => (A _ _ _ _ hq).e) (fun t l' g q _ _ h => mk_she h))
      split at h
      · rename_i hb; exact tail_sh hb (then_she h (fun q hq => (A _ _ _ _ hq).e) (fun t l' g q _ _ h => mk_she h))
      split at h
      · rename_i hb; exact tail_sh hb (then_she h (fun q hq => (A _ _ _ _ hq).e) (fun t l' g q _ _ h => mk_she h))
      · obtain rfl := Option.some.inj h; exact List.suffix_refl _
end Go.Proofs.Ytlbchdalimngjaa.P
namespace Go.Proofs.Ytlbchdalimngjaa.P
open Go.RowKit Go.Proofs.YtlbchdalimngjaaW.PrintWords Go.Proofs.YtlbchdalimngjaaW.PrintLast Go.Proofs.YtlbchdalimngjaaW.PrintMore
set_option linter.unusedVariables false
set_option linter.unusedSimpArgs false
def Below_ (A : Program) (mf : Nat) (k lv : Nat) : Prop := ∀ (l : List Tok) (long : Bool) (r : Res) (w0 w : World) (g : Nat) (size : Int), levS k lv l long = some r → l.length ≤ 100000 → IsRd w0 w g l size long → Below w0.heap.size w0 w →
  Calls A mf #[.pointer (some ⟨g, 0, none⟩)] w (PostR w0 w g size r)
theorem below_at {A : Program} {mf k lv : Nat} (h : ∀ m, m ≤ k → Below_ A mf m lv) {m : Nat} (hm : m ≤ k) {l : List Tok} {long : Bool} {r : Res} {w0 w : World} {g : Nat} {size : Int} (hr : levS m lv l long = some r) (hl : l.length ≤ 100000) (hI : IsRd w0 w g l size long) (hB : Below w0.heap.size w0 w) :
    Calls A mf #[.pointer (some ⟨g, 0, none⟩)] w (PostR w0 w g size r) := h m hm l long r w0 w g size hr hl hI hB
def Ent (A : Program) (mf : Nat) : Prop := ∀ (args : Array Value) (w : World), Sem.run A (callFunc mf args) w = .ok (.enter mf args) w
theorem sign_none {l : List Tok} : ∀ (ss : List ByteArray) (os : List Int), ss.length = os.length → signGo l ss os = none → ∀ (j : Nat) (s : ByteArray), ss[j]? = some s → isB l s = false
  | [], os, hl, h, j, s, hj => by cases hj
  | s0 :: ss, [], hl, h, j, s, hj => by cases hl
  | s0 :: ss, o :: os, hl, h, j, s, hj => by
    rw [signGo] at h
    split at h
    · cases h
    · rename_i hb
      cases j with
      | zero => obtain rfl := Option.some.inj hj; exact Bool.eq_false_iff.2 hb
      | succ j => exact sign_none ss os (Nat.succ.inj hl) h j s hj
theorem sign_some {l : List Tok} {op : Int} : ∀ (ss : List ByteArray) (os : List Int), signGo l ss os = some op → ∃ (j : Nat) (s : ByteArray), ss[j]? = some s ∧ os[j]? = some op ∧ isB l s = true ∧ ∀ (i : Nat) (s' : ByteArray), i < j → ss[i]? = some s' → isB l s' = false
  | [], os, h => by simp [signGo] at h
  | s0 :: ss, [], h => by simp [signGo] at h
  | s0 :: ss, o :: os, h => by
    rw [signGo] at h
    split at h
    · rename_i hb
      obtain rfl := Option.some.inj h
      exact ⟨0, s0, rfl, rfl, hb, fun i s' hi => absurd hi (Nat.not_lt_zero _)⟩
    · rename_i hb
      obtain ⟨j, s, h1, h2, h3, h4⟩ := sign_some ss os h
      refine ⟨j + 1, s, h1, h2, h3, fun i s' hi hs => ?_⟩
      cases i with
      | zero => obtain rfl := Option.some.inj hs; exact Bool.eq_false_iff.2 hb
      | succ i => exact h4 i s' (by omega) hs
theorem str_at {W : World} {A : Option Addr} {ss : List ByteArray} {j : Nat} {s : ByteArray} (h : Kd.C Kd.string W A ss.length ss) (hj : ss[j]? = some s) : ∃ ad, A = some ad ∧ W.cell? (ad.add j) = some (.string s) := by
  have hlt := (List.getElem?_eq_some_iff.1 hj).1
  obtain ⟨ad, e, hc⟩ := Kd.at_string h (j : Int) (by omega) (by omega)
  refine ⟨ad, e, ?_⟩
  rw [Int.toNat_natCast] at hc
  rw [hc]
  unfold rdOf
  rw [Int.toNat_natCast, List.getD_eq_getElem?_getD, hj]
  rfl
theorem op_at {W : World} {A : Option Addr} {os : List Int} {j : Nat} {x : Int} (h : Kd.C (Kd.int .u8) W A os.length os) (hj : os[j]? = some x) : ∃ ad, A = some ad ∧ W.cell? (ad.add j) = some (.int .u8 x) := by
  have hlt := (List.getElem?_eq_some_iff.1 hj).1
  obtain ⟨ad, e, hc⟩ := Kd.at_int h (j : Int) (by omega) (by omega)
  refine ⟨ad, e, ?_⟩
  rw [Int.toNat_natCast] at hc
  rw [hc]
  unfold rd
  rw [Int.toNat_natCast, List.getD_eq_getElem?_getD, hj]
  rfl
theorem sg_len (lv : Nat) : (sgW lv).length = (sgO lv).length ∧ (sgW lv).length ≤ 4 := by
  match lv with
  | 0 => exact ⟨rfl, by decide⟩
  | 1 => exact ⟨rfl, by decide⟩
  | 2 => exact ⟨rfl, by decide⟩
  | 3 => exact ⟨rfl, by decide⟩
  | 4 => exact ⟨rfl, by decide⟩
  | n + 5 => exact ⟨rfl, by simp [sgW]⟩
theorem lits2 {W : World} {g : Nat} {A1 A2 : Option Addr} {c1 c2 : Nat} {t u : List Twg} (h1 : t.length ≤ c1) (f1 : ∀ W_, KeepBut W W_ g none → Kd.C k43 W_ A1 t.length t) (h2 : u.length ≤ c2) (f2 : ∀ W_, KeepBut W W_ g none → Kd.C k43 W_ A2 u.length u) :
    ∀ (j : Nat) v q, ([.slice A1 t.length c1, .slice A2 u.length c2] : List Value)[j]? = some v → [t, u][j]? = some q → ∃ A c, v = .slice A q.length c ∧ q.length ≤ c ∧ ∀ W_, KeepBut W W_ g none → Kd.C k43 W_ A q.length q := by
  intro j v q hv hq
  match j with
  | 0 => obtain rfl := Option.some.inj hv; obtain rfl := Option.some.inj hq; exact ⟨A1, c1, rfl, h1, f1⟩
  | 1 => obtain rfl := Option.some.inj hv; obtain rfl := Option.some.inj hq; exact ⟨A2, c2, rfl, h2, f2⟩
  | j + 2 => cases hv
set_option maxHeartbeats 8000000 in
set_option maxRecDepth 100000 in
theorem rd_left {k lv mf : Nat} (hent : Ent Try.prog mf) (hbel : ∀ m, m ≤ k → Below_ Try.prog mf m (lv + 1)) {l : List Tok} {long : Bool} {r : Res} {w0 w : World} {g : Nat} {size : Int} {SA OA : Option Addr} {c1 c2 : Nat}
    (hr : andThen (levS k (lv + 1) l long) (fun t l g => leftS k lv t l g) = some r) (hl : l.length ≤ 100000) (hI : IsRd w0 w g l size long) (hB : Below w0.heap.size w0 w)
    (hS : ∀ W_, KeepBut w W_ g none → Kd.C Kd.string W_ SA (sgW lv).length (sgW lv)) (hO : ∀ W_, KeepBut w W_ g none → Kd.C (Kd.int .u8) W_ OA (sgO lv).length (sgO lv)) (hc1 : (sgW lv).length ≤ c1) (hc2 : (sgO lv).length ≤ c2) :
    Calls Try.prog 80 #[.pointer (some ⟨g, 0, none⟩), .agg #[.slice SA (sgW lv).length c1, .slice OA (sgO lv).length c2], .func (.func mf) #[.pointer (some ⟨g, 0, none⟩)] #[], .bool (lv == 2)] w (PostR w0 w g size r) := by
  have hent' : ∀ (args : Array Value) (w : World), Sem.run Try.prog (callFunc mf args) w = .ok (.enter mf args) w := hent
  have HK := Aside0.mk (Keeps.refl hI hB)
  have HBL := Aside0.mk hbel
  have HS := Aside0.mk hS
  have HO := Aside0.mk hO
  have HL := Aside0.mk hl
  have GL := Aside0.mk hI.lt
  clear hent hbel hS hO hl hI hB
  generalize hbb : (lv == 2) = once
  have HONCE := Aside0.mk hbb
  clear hbb
  rcases andThen_inv hr with ⟨t, l1, g1, h1, h2⟩ | ⟨l1, h1, rfl⟩
  · have SH := (all_sh k).1 _ _ _ _ h1
    have H1 := Aside0.mk h1
    have HL1 := Aside0.mk (Nat.le_trans SH.1.length_le HL.out)
    have H2 := Aside0.mk h2
    clear h1 hr SH h2
    go_enter Try.func80, Try.ntmps80
    go_upto_block 0 with (first | ((with_reducible refine gate_dst (N := 5) rfl ?_); refine box_event ?hg (N := 5) ?hd (cs := #[.slice SA (sgW lv).length c1, .slice OA (sgO lv).length c2]) (t := 94) ?hr ?_; (case hd => rfl); (case hg => rfl); (case hr => first | (go_simp; done) | (go_simp; rfl)); intro gb hg w1 hbox hb; have K1 := Aside0.mk (HK.out.below hb); have BX1 := Aside0.mk hbox; have GB := Aside0.mk hg; clear hbox hb hg) | ((with_reducible refine (below_at HBL.out (Nat.le_refl _) H1.out HL.out K1.out.i K1.out.b).mono ?_); rintro e w2 ⟨A2, c2', rfl, ht, hk⟩; have HT := Aside0.mk (ht.lower K1.out.grows); have K2 := Aside0.mk (K1.out.then_ hk); have BX := Aside0.mk (hk.k.blk BX1.out (by have := GB.out; have := GL.out; omega) (by simp)); clear ht hk))
    clear K1 BX1
    go_wp2
    go_loopg [9] k (fun kq q w' => ∃ (v9 : Value) (t : List Twg) (l : List Tok) (lg : Bool), v9 = q ∧ Aside0 (leftS kq lv t l lg = some r) ∧ Aside0 (kq ≤ k) ∧ Aside0 (l.length ≤ 100000) ∧ Aside0 (Tr w w' q t) ∧ Aside0 (Keeps w0 w w' g l size lg) ∧ Aside0 (w'.heap[gb]? = some (.cells #[.slice SA (sgW lv).length c1, .slice OA (sgO lv).length c2] 94 (0, 0))))
    case atStart => exact ⟨_, _, _, _, rfl, H2, ⟨Nat.le_refl _⟩, HL1, HT, K2, BX⟩
    case round =>
      clear H1 H2 HL1 HT K2 BX HK HL
      obtain ⟨v9, t, l, lg, rfl, HA, HKq, HL, HT, HK, BX⟩ := hrel
      cases gk with
      | zero => exact absurd HA.out (by simp [leftS])
      | succ kq =>
        have H := HA.out
        clear HA
        rw [leftS] at H
        have hb0 : wr.cell? ⟨gb, 0, none⟩ = some (.slice SA (sgW lv).length c1) := (blk_cell BX.out 0).trans rfl
        cases hs : signAt lv l with
        | none =>
          rw [hs] at H
          have HN := Aside0.mk (sign_none _ _ (sg_len lv).1 hs)
          obtain rfl := Option.some.inj H
          clear H hs
          go_wp2
          go_loop [9, 10, 18] (fun a b i => a = v9 ∧ b = .bool false ∧ ∃ j : Nat, i = .int .i64 (j : Int) ∧ j ≤ (sgW lv).length) (fun _ _ i => (sgW lv).length - (intOf i).toNat)
          case atStart => exact ⟨rfl, rfl, 0, rfl, Nat.zero_le _⟩
          case round =>
            obtain ⟨rfl, rfl, j, rfl, hj⟩ := hrel
            by_cases hlt : j < (sgW lv).length
            · obtain ⟨s, hjs⟩ : ∃ s, (sgW lv)[j]? = some s := ⟨_, List.getElem?_eq_getElem hlt⟩
              obtain ⟨ad, eA, hc⟩ := str_at (HS.out _ HK.out.k) hjs
              subst eA
              have hf := HN.out j s hjs
              have HF := Aside0.mk hf
              have c1b : decide (j < (sgW lv).length) = true := decide_eq_true hlt
              have q1 : (j < (sgW lv).length) = True := eq_true hlt
              have cw : (j : Int) ≤ 4 := by have := (sg_len lv).2; omega
              have HLT := Aside0.mk hlt
              clear hf hjs hlt hj
              go_wp2_with (go_at_call 99; (with_reducible refine (rd_has_f s HK.out.i HK.out.b HF.out).mono ?_); rintro e w' ⟨rfl, rfl⟩)
              go_round
              case rel => exact ⟨rfl, rfl, j + 1, by go_num, by have := HLT.out; omega⟩
              case measure => have := HLT.out; simp [intOf]; omega
            · have c1b : decide (j < (sgW lv).length) = false := decide_eq_false hlt
              clear hlt
              go_wp2
              go_ret
              exact PostR.ok_ HT.out HK.out
        | some op =>
          rw [hs] at H
          obtain ⟨j0, s0, e1, e2, e3, e4⟩ := sign_some _ _ hs
          obtain ⟨x, l', rfl⟩ := isB_cons e3
          have E1 := Aside0.mk e1
          have E2 := Aside0.mk e2
          have E3 := Aside0.mk e3
          have E4 := Aside0.mk e4
          rw [List.tail_cons] at H
          have H3 := Aside0.mk H
          have J0 := Aside0.mk (List.getElem?_eq_some_iff.1 e1).1
          clear e1 e2 e3 e4 hs H
          go_wp2
          go_loop [9, 10, 18] (fun a b i => a = v9 ∧ b = .bool false ∧ ∃ j : Nat, i = .int .i64 (j : Int) ∧ Aside0 (j ≤ j0)) (fun _ _ i => (sgW lv).length - (intOf i).toNat)
          case atStart => exact ⟨rfl, rfl, 0, rfl, ⟨Nat.zero_le _⟩⟩
          case round =>
            obtain ⟨rfl, rfl, j, rfl, HJ⟩ := hrel
            have hlt : j < (sgW lv).length := by have := HJ.out; have := J0.out; omega
            have c1b : decide (j < (sgW lv).length) = true := decide_eq_true hlt
            have q1 : (j < (sgW lv).length) = True := eq_true hlt
            have cw : (j : Int) ≤ 4 := by have := (sg_len lv).2; omega
            have HLT := Aside0.mk hlt
            by_cases hj : j < j0
            · obtain ⟨s, hjs⟩ : ∃ s, (sgW lv)[j]? = some s := ⟨_, List.getElem?_eq_getElem hlt⟩
              obtain ⟨ad, eA, hc⟩ := str_at (HS.out _ HK.out.k) hjs
              subst eA
              have HF := Aside0.mk (E4.out j s hj hjs)
              have HJ2 := Aside0.mk hj
              clear hjs hlt hj
              go_wp2_with (go_at_call 99; (with_reducible refine (rd_has_f s HK.out.i HK.out.b HF.out).mono ?_); rintro e w' ⟨rfl, rfl⟩)
              go_round
              case rel => exact ⟨rfl, rfl, j + 1, by go_num, ⟨by have := HJ2.out; omega⟩⟩
              case measure => have := HLT.out; simp [intOf]; omega
            · have hjj : j = j0 := by have := HJ.out; omega
              subst hjj
              obtain ⟨ad, eA, hc⟩ := str_at (HS.out _ HK.out.k) E1.out
              subst eA
              clear hlt hj
              go_upto_region 7 with (go_at_call 99; (with_reducible refine (rd_has_t s0 HK.out.i HK.out.b E3.out).mono ?_); rintro e w3 ⟨rfl, hi, hb, hk⟩; have K3 := Aside0.mk (show Keeps w0 wr w3 g l' size lg from ⟨hi, hb, hk⟩); clear hi hb hk)
              have K03 := Aside0.mk (HK.out.then_ K3.out)
              have hgb : gb ≠ g := by have := GB.out; have := GL.out; omega
              have BX3 := Aside0.mk (K3.out.k.blk BX.out hgb (by simp))
              obtain ⟨oa, eO, hop⟩ := op_at (HO.out _ K03.out.k) E2.out
              subst eO
              have HSS : ∀ W', KeepBut w3 W' g none → W'.cell? ⟨gb, 1, none⟩ = some (.slice (some oa) (sgO lv).length c2) ∧ W'.cell? (oa.add j) = some (.int .u8 op) := by
                intro W' hk
                refine ⟨(blk_cell (hk.blk BX3.out hgb (by simp)) 1).trans rfl, ?_⟩
                obtain ⟨oa', e, h⟩ := op_at (HO.out _ (K03.out.k.trans hk (.inl rfl))) E2.out
                injection e with e
                rw [e]
                exact h
              have HSK := Aside0.mk HSS
              have T3 := Aside0.mk (HT.out.keep GL.out K3.out.k)
              have hjo : j < (sgO lv).length := (List.getElem?_eq_some_iff.1 E2.out).1
              have q2 : (j < (sgO lv).length) = True := eq_true hjo
              obtain ⟨At, ct, rfl, hct, hft⟩ := T3.out.foot (g := g) GL.out
              have HFT := Aside0.mk hft
              have HCT := Aside0.mk hct
              have HLE := Aside0.mk (show l'.length ≤ 100000 by have := HL.out; rw [List.length_cons] at this; omega)
              have KD := Aside0.mk (Keeps.drew (Keeps.refl K3.out.i K3.out.b))
              clear hgb HSS hjo hct hft hc hb0
              rcases andThen_inv H3.out with ⟨u, l2, g2, f1, f2⟩ | ⟨l2, f1, rfl⟩
              · have SH := (all_sh kq).1 _ _ _ _ f1
                have F1 := Aside0.mk f1
                have F2 := Aside0.mk f2
                have HL2 := Aside0.mk (Nat.le_trans SH.1.length_le HLE.out)
                clear f1 f2 SH
                go_region_held3 (fun W' => W'.cell? ⟨gb, 1, none⟩ = some (.slice (some oa) (sgO lv).length c2) ∧ W'.cell? (oa.add j) = some (.int .u8 op)) (first | exact HSK.out _ (KeepBut.refl _ _ _) | exact HSK.out _ (keep_drew (KeepBut.refl _ _ _)) | exact HSK.out _ K4.out.k | exact HSK.out _ (keep_alloc K4.out.k _) | exact HSK.out _ (keep_drew (keep_alloc K4.out.k _)) | exact HSK.out _ K5.out.k) (first | ((with_reducible refine (below_at HBL.out ?hm F1.out HLE.out KD.out.i KD.out.b).mono ?_); (case hm => have := HKq.out; omega); rintro e w4 ⟨A4, c4, rfl, ht, hk⟩; have T4 := Aside0.mk (ht.lower (Nat.le_trans K03.out.grows KD.out.grows)); have K4 := Aside0.mk (KD.out.then_ hk); clear ht hk) | (go_at_call 88; refine (rd_of (⟨op, 0, 0, ⟨#[]⟩⟩ : Twg) (A := some ⟨w4.heap.size, 0, none⟩) (c := 2) (parts := [t, u]) (w0 := w0) (l := l2) (long := g2) (size := size) ?a1 ?a2 ?a3 (Nat.le_refl _) (by simp) ?a6).mono ?_; (case a1 => exact (K4.out.alloc _).i); (case a2 => exact (K4.out.alloc _).b); (case a3 => exact lits_foot (vs := [.slice At t.length ct, .slice A4 u.length c4]) (blk_new w4 _) (by have := K4.out.i.lt; omega) rfl (by simp) (lits2 HCT.out (fun W_ hk => HFT.out W_ ((K4.out.alloc _).k.trans hk (.inl rfl))) (T4.out.foot' GL.out).1 (fun W_ hk => (T4.out.foot' GL.out).2 W_ ((KeepBut.of_below (below_alloc (Below.refl _ _) _) g none).trans hk (.inl rfl))))); (case a6 => intro p hp; rcases List.mem_cons.1 hp with rfl | hp; exact T3.out.2; rw [List.mem_singleton] at hp; rw [hp]; exact T4.out.2); rintro e w5 ⟨v5, rfl, ho, hi, hb, hk⟩; have T5 := Aside0.mk (show Tr w w5 v5 (ofS (op1 op) [t, u] g2).1 from ⟨Kd.R_lower ho (Nat.le_trans K03.out.grows (K4.out.alloc _).grows), ofS_len _ _ _⟩); have K5 := Aside0.mk ((K4.out.alloc _).then_ (show Keeps w0 _ w5 g l2 size (ofS (op1 op) [t, u] g2).2 from ⟨hi, hb, hk⟩)); clear ho hi hb hk))
                have BX5 := Aside0.mk (K5.out.k.blk BX3.out (by have := GB.out; have := GL.out; omega) (by simp))
                have K05 := Aside0.mk (K03.out.then_ K5.out)
                have F3 := F2.out
                clear hop F2
                cases once with
                | true =>
                  rw [if_pos (by simpa using HONCE.out)] at F3
                  obtain rfl := Option.some.inj F3
                  clear F3
                  go_wp2
                  go_ret
                  exact PostR.ok_ T5.out K05.out
                | false =>
                  rw [if_neg (by simpa using HONCE.out)] at F3
                  have HF3 := Aside0.mk F3
                  clear F3
                  go_wp2
                  go_roundg kq
                  case measure => omega
                  case rel => exact ⟨_, _, _, _, rfl, HF3, ⟨by have := HKq.out; omega⟩, HL2, T5, K05, BX5⟩
              · have F1 := Aside0.mk f1
                clear f1
                obtain ⟨hbc, hboc⟩ := HSK.out _ (KeepBut.refl _ _ _)
                go_region_held2 (fun W' => W'.cell? ⟨gb, 1, none⟩ = some (.slice (some oa) (sgO lv).length c2) ∧ W'.cell? (oa.add j) = some (.int .u8 op)) (first | exact HX.out.elim | exact HSK.out _ (KeepBut.refl _ _ _) | exact HSK.out _ (keep_drew (KeepBut.refl _ _ _))) (first | (refine calls_dies (c := faultC l2 size) (R := fun w' => Below w0.heap.size w0 w') (below_at (size := size) HBL.out ?hm F1.out HLE.out KD.out.i KD.out.b) ?hp ?_; (case hm => have := HKq.out; omega); (case hp => intro w' h; exact ⟨rfl, rfl, h⟩); intro A4 n4 c4 w4 hF; have HX := Aside0.mk hF; have hxc : w4.cell? ⟨gb, 1, none⟩ = some (.slice (some oa) (sgO lv).length c2) := hF.elim; have hxo : w4.cell? (oa.add j) = some (.int .u8 op) := hF.elim; clear hF) | (go_at_call 88; refine calls_never HX.out ?_; intro A5 n5 c5 w5))
                all_goals exact HX.out.elim
  · have H1 := Aside0.mk h1
    clear h1 hr
    go_enter Try.func80, Try.ntmps80
    go_wp2_with (first | ((with_reducible refine gate_dst (N := 5) rfl ?_); refine box_event ?hg (N := 5) ?hd (cs := #[.slice SA (sgW lv).length c1, .slice OA (sgO lv).length c2]) (t := 94) ?hr ?_; (case hd => rfl); (case hg => rfl); (case hr => first | (go_simp; done) | (go_simp; rfl)); intro gb hg w1 hbox hb; have K1 := Aside0.mk (HK.out.below hb); clear hbox hb hg) | ((with_reducible refine (below_at HBL.out (Nat.le_refl _) H1.out HL.out K1.out.i K1.out.b).mono ?_); rintro e w' ⟨rfl, hp⟩))
    exact ⟨rfl, rfl, hp⟩
end Go.Proofs.Ytlbchdalimngjaa.P
namespace Go.Proofs.Ytlbchdalimngjaa.P
open Go.RowKit Go.Proofs.YtlbchdalimngjaaW.PrintWords Go.Proofs.YtlbchdalimngjaaW.PrintLast Go.Proofs.YtlbchdalimngjaaW.PrintMore
set_option linter.unusedVariables false
set_option linter.unusedSimpArgs false
theorem mk_run' (P : Program) (fn : Fn) (first cap : Array Value) (w : World) : (Instr.makeFunc fn first cap).run P w = .ok (.func fn first cap) w := rfl
theorem mk_events' (P : Program) (fn : Fn) (first cap : Array Value) (w : World) (es : Array Event) : (Instr.makeFunc fn first cap).events P w es = es := rfl
section
variable {w0 w W : World} {g : Nat} {l l' : List Tok} {size : Int} {lg lg' : Bool} {t u : List Twg} {A B : Option Addr} {c d : Nat}
theorem PostR.up {e : Ending} {w' : World} (K : Keeps w0 w W g l size lg) (h : PostR w0 W g size (.ok t l' lg') e w') : ∃ A c, e = .returned (.slice A t.length c) ∧ Tr w w' (.slice A t.length c) t ∧ Keeps w0 w w' g l' size lg' ∧ KeepBut W w' g none := by
  obtain ⟨A, c, h1, h2, h3⟩ := h
  exact ⟨A, c, h1, h2.lower K.grows, K.then_ h3, h3.k⟩
theorem lits1 {W : World} {A1 : Option Addr} {c1 : Nat} (h1 : t.length ≤ c1) (f1 : ∀ W_, KeepBut W W_ g none → Kd.C k43 W_ A1 t.length t) :
    ∀ (j : Nat) v q, ([.slice A1 t.length c1] : List Value)[j]? = some v → [t][j]? = some q → ∃ A c, v = .slice A q.length c ∧ q.length ≤ c ∧ ∀ W_, KeepBut W W_ g none → Kd.C k43 W_ A q.length q := by
  intro j v q hv hq
  match j with
  | 0 => obtain rfl := Option.some.inj hv; obtain rfl := Option.some.inj hq; exact ⟨A1, c1, rfl, h1, f1⟩
  | j + 1 => cases hv
def PostO (w0 w : World) (g : Nat) (size : Int) (l : List Tok) (p : List Twg × Bool) (e : Ending) (w' : World) : Prop := ∃ A c, e = .returned (.slice A p.1.length c) ∧ Tr w w' (.slice A p.1.length c) p.1 ∧ Keeps w0 w w' g l size p.2
theorem of_post {x : Twg} {parts : List (List Twg)} {e : Ending} {w' : World} (K : Keeps w0 w W g l size lg) (h : ∃ v, e = .returned v ∧ Kd.R k43 43 w' W.heap.size (fun _ => True) v (ofS x parts lg).1 ∧ IsRd w0 w' g l size (ofS x parts lg).2 ∧ Below w0.heap.size w0 w' ∧ KeepBut W w' g none) : PostO w0 w g size l (ofS x parts lg) e w' := by
  obtain ⟨v, rfl, h1, h2, h3, h4⟩ := h
  obtain ⟨A, c, rfl⟩ := Kd.R_slice h1
  exact ⟨A, c, rfl, ⟨Kd.R_lower h1 K.grows, ofS_len _ _ _⟩, K.then_ ⟨h2, h3, h4⟩⟩
theorem rd_of1 {x0 x2 : Int} {x3 : ByteArray} (K : Keeps w0 w W g l size lg) (GL : g < w.heap.size) (T1 : Tr w W (.slice A t.length c) t) :
    Calls Try.prog 88 #[.pointer (some ⟨g, 0, none⟩), .agg #[.int .u8 x0, .int .i64 0, .int .i64 x2, .string x3], .slice (some ⟨W.heap.size, 0, none⟩) 1 1] (W.alloc (.cells #[.slice A t.length c] 36 (0, 0)))
      (PostO w0 w g size l (ofS ⟨x0, 0, x2, x3⟩ [t] lg)) := by
  obtain ⟨hc, hf⟩ := T1.foot' GL
  refine (rd_of (⟨x0, 0, x2, x3⟩ : Twg) (A := some ⟨W.heap.size, 0, none⟩) (c := 1) (parts := [t]) (w0 := w0) (l := l) (long := lg) (size := size) (K.alloc _).i (K.alloc _).b ?_ (Nat.le_refl _) (by simp) ?_).mono fun e w' h => of_post (K.alloc _) h
  · exact lits_foot (vs := [.slice A t.length c]) (blk_new W _) (by have := K.i.lt; omega) rfl (by simp) (lits1 hc (fun W_ hk => hf W_ ((KeepBut.of_below (below_alloc (Below.refl _ _) _) g none).trans hk (.inl rfl))))
  · intro p hp
    rw [List.mem_singleton] at hp
    rw [hp]
    exact T1.2
theorem rd_of2 {x0 x2 : Int} {x3 : ByteArray} (K : Keeps w0 w W g l size lg) (GL : g < w.heap.size) (T1 : Tr w W (.slice A t.length c) t) (T2 : Tr w W (.slice B u.length d) u) :
    Calls Try.prog 88 #[.pointer (some ⟨g, 0, none⟩), .agg #[.int .u8 x0, .int .i64 0, .int .i64 x2, .string x3], .slice (some ⟨W.heap.size, 0, none⟩) 2 2] (W.alloc (.cells #[.slice A t.length c, .slice B u.length d] 36 (0, 0)))
      (PostO w0 w g size l (ofS ⟨x0, 0, x2, x3⟩ [t, u] lg)) := by
  obtain ⟨hc, hf⟩ := T1.foot' GL
  obtain ⟨hd, hg⟩ := T2.foot' GL
  have ka : ∀ W_, KeepBut (W.alloc (.cells #[.slice A t.length c, .slice B u.length d] 36 (0, 0))) W_ g none → KeepBut W W_ g none := fun W_ hk => (KeepBut.of_below (below_alloc (Below.refl _ _) _) g none).trans hk (.inl rfl)
  refine (rd_of (⟨x0, 0, x2, x3⟩ : Twg) (A := some ⟨W.heap.size, 0, none⟩) (c := 2) (parts := [t, u]) (w0 := w0) (l := l) (long := lg) (size := size) (K.alloc _).i (K.alloc _).b ?_ (Nat.le_refl _) (by simp) ?_).mono fun e w' h => of_post (K.alloc _) h
  · exact lits_foot (vs := [.slice A t.length c, .slice B u.length d]) (blk_new W _) (by have := K.i.lt; omega) rfl (by simp) (lits2 hc (fun W_ hk => hf W_ (ka W_ hk)) hd (fun W_ hk => hg W_ (ka W_ hk)))
  · intro p hp
    rcases List.mem_cons.1 hp with rfl | hp
    · exact T1.2
    · rw [List.mem_singleton] at hp
      rw [hp]
      exact T2.2
theorem strs_foot {b : Nat} {T : TypeId} {ss : List ByteArray} (hb : W.heap[b]? = some (.cells (ss.map Value.string).toArray T (0, 0))) (hbg : b ≠ g) (hn : ss.length ≤ 1000) : ∀ W_, KeepBut W W_ g none → Kd.C Kd.string W_ (some ⟨b, 0, none⟩) ss.length ss := by
  intro W_ hk
  refine ⟨rfl, by have : maxLen = 9223372036854775807 := rfl; omega, fun _ => ⟨_, rfl, fun j p hj => ⟨[.string p], rfl, rfl, fun i v hv => ?_⟩⟩⟩
  have hi : i = 0 := by
    cases i with
    | zero => rfl
    | succ i => cases hv
  subst hi
  obtain rfl := Option.some.inj hv
  have h2 := blk_cell (hk.blk hb hbg (by simp)) (j * 1 + 0)
  have e : (⟨b, 0, none⟩ : Addr).add (j * Kd.string.sz + 0) = ⟨b, j * 1 + 0, none⟩ := by
    show (⟨b, 0, none⟩ : Addr).add (j * 1 + 0) = _
    rw [add_plain]
  rw [e, h2]
  simp [hj]
theorem ops_foot {b : Nat} {T : TypeId} {os : List Int} (hb : W.heap[b]? = some (.cells (os.map (Value.int .u8)).toArray T (0, 0))) (hbg : b ≠ g) (hn : os.length ≤ 1000) : ∀ W_, KeepBut W W_ g none → Kd.C (Kd.int .u8) W_ (some ⟨b, 0, none⟩) os.length os := by
  intro W_ hk
  refine ⟨rfl, by have : maxLen = 9223372036854775807 := rfl; omega, fun _ => ⟨_, rfl, fun j p hj => ⟨[.int .u8 p], rfl, rfl, fun i v hv => ?_⟩⟩⟩
  have hi : i = 0 := by
    cases i with
    | zero => rfl
    | succ i => cases hv
  subst hi
  obtain rfl := Option.some.inj hv
  have h2 := blk_cell (hk.blk hb hbg (by simp)) (j * 1 + 0)
  have e : (⟨b, 0, none⟩ : Addr).add (j * (Kd.int .u8).sz + 0) = ⟨b, j * 1 + 0, none⟩ := by
    show (⟨b, 0, none⟩ : Addr).add (j * 1 + 0) = _
    rw [add_plain]
  rw [e, h2]
  simp [hj]
end
def lvF : Nat → Nat
  | 0 => 57
  | 1 => 81
  | 2 => 100
  | 3 => 112
  | 4 => 118
  | _ => 121
def Fn_ (mf : Nat) (S : List Tok → Bool → Option Res) : Prop := ∀ (l : List Tok) (long : Bool) (r : Res) (w0 w : World) (g : Nat) (size : Int), S l long = some r → l.length ≤ 100000 → IsRd w0 w g l size long → Below w0.heap.size w0 w →
  Calls Try.prog mf #[.pointer (some ⟨g, 0, none⟩)] w (PostR w0 w g size r)
theorem fn_at {mf : Nat} {S : List Tok → Bool → Option Res} (h : Fn_ mf S) {l : List Tok} {long : Bool} {r : Res} {w0 w : World} {g : Nat} {size : Int} (hr : S l long = some r) (hl : l.length ≤ 100000) (hI : IsRd w0 w g l size long) (hB : Below w0.heap.size w0 w) :
    Calls Try.prog mf #[.pointer (some ⟨g, 0, none⟩)] w (PostR w0 w g size r) := h l long r w0 w g size hr hl hI hB
def AllOk (k : Nat) : Prop := (∀ lv, lv ≤ 5 → Fn_ (lvF lv) (levS k lv)) ∧ Fn_ 121 (preS k) ∧ Fn_ 126 (primS k) ∧ Fn_ 89 (blockS k) ∧ Fn_ 108 (stmtS k)
theorem AllOk.expr_ {k : Nat} (h : AllOk k) : Fn_ 57 (levS k 0) := h.1 0 (by omega)
theorem AllOk.not_ {k : Nat} (h : AllOk k) : Fn_ 100 (levS k 2) := h.1 2 (by omega)
theorem AllOk.pre_ {k : Nat} (h : AllOk k) : Fn_ 121 (preS k) := h.2.1
theorem AllOk.prim_ {k : Nat} (h : AllOk k) : Fn_ 126 (primS k) := h.2.2.1
theorem AllOk.block_ {k : Nat} (h : AllOk k) : Fn_ 89 (blockS k) := h.2.2.2.1
theorem AllOk.stmt_ {k : Nat} (h : AllOk k) : Fn_ 108 (stmtS k) := h.2.2.2.2
theorem ent_of (lv : Nat) : Ent Try.prog (lvF lv) := by
  unfold lvF
  split
  · exact enters_ Try.func57 (by kernel_rfl) rfl
  · exact enters_ Try.func81 (by kernel_rfl) rfl
  · exact enters_ Try.func100 (by kernel_rfl) rfl
  · exact enters_ Try.func112 (by kernel_rfl) rfl
  · exact enters_ Try.func118 (by kernel_rfl) rfl
  · exact enters_ Try.func121 (by kernel_rfl) rfl
end Go.Proofs.Ytlbchdalimngjaa.P
