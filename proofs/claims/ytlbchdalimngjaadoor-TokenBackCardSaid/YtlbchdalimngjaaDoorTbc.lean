/- Parts of a proof, joined by a program: the statement TokenBack holds (the tied card): tokens that are spelled are read again, just they -/
import Derived.WalkMore
import Derived.ScopeJumps
import Derived.WalkLawsBesides
import Derived.KernelRfl
import Derived.Deep.RegionHeld3
import Derived.Deep.RegionHeld2
import Derived.Laws.EntriesVeiled
import Derived.Lib.Builder
import Derived.Lib.AppendStr
import Derived.Lib.UnsafeStr
import Derived.Lib.Walk
import Derived.Lib.Strings
import Derived.Laws.Externs
import Derived.WalkKit
import Derived.WalkSpells
import Derived.Shelf.Strings.Builder1
import Derived.Shelf.Small.Strs
import Derived.Shelf.Strconv.Itoa0
import Derived.Shelf.Strconv.Itoa1
import Derived.Shelf.LaysM
import Derived.Shelf.Strconv.Itoa2
import Derived.Shelf.Strconv.Itoa3
import Derived.Shelf.Strconv.Itoa4
import Derived.Shelf.Strings.Search1
import Derived.Test.YtlbchdalimngjaaDoorProg
import Derived.Test.YtlbchdalimngjaaDoorTbb
namespace Go.Proofs.YtlbchdalimngjaaDoor.P
open Go.RowKit Go.Proofs.YtlbchdalimngjaaDoorW.PrintWords Go.Proofs.YtlbchdalimngjaaDoorW.PrintLast Go.Proofs.YtlbchdalimngjaaDoorW.PrintMore
attribute [local go_sem] max2_int min2_int max_two min_two max_three min_three max_four min_four
set_option linter.unusedVariables false
set_option linter.unusedSimpArgs false
theorem ite_some {p : Prop} [Decidable p] {α : Type} {c : Option α} {r : α} (h : (if p then c else none) = some r) : p ∧ c = some r := by
  split at h
  · exact ⟨‹_›, h⟩
  · cases h
section
variable {P : Program} {Q : Exit → Act → World → Prop} {a : Act} {w : World}
theorem wp_scope_k {c B : Code} (l : Nat) (J : Act → World → Prop) (hf : findLabel c l = some (.seq .skip B))
    (pass : ∀ a w, J a w → B.wp P (Exit.noGoto Q) a w)
    (first : ∀ J' : Act → World → Prop, (∀ a w, J a w → J' a w) → (∀ a w, J a w → B.wp P (Exit.jump l J' Q) a w) → c.wp P (Exit.jump l J' Q) a w) : (Code.scope c).wp P Q a w := by
  have up : ∀ (J2 : Act → World → Prop) (a : Act) (w : World), J a w → B.wp P (Exit.jump l J2 Q) a w := fun J2 a w h => wp_mono (pass a w h) (by
    intro e a' w' hq
    cases e <;> first | exact hq | exact hq.elim)
  exact wp_scope_jumps l J (fun _ _ => 0) hf (first J (fun _ _ h => h) (up J)) (fun a w h => wp_seq (wp_skip (up _ a w h)))
variable {l : Nat} {J : Act → World → Prop}
theorem jump_normal : Exit.jump l J Q .normal a w = Q .normal a w := rfl
theorem jump_exit (id : Nat) : Exit.jump l J Q (.exit id) a w = Q (.exit id) a w := rfl
theorem jump_ret : Exit.jump l J Q .ret a w = Q .ret a w := rfl
theorem jump_panic (ch : List PanicEntry) : Exit.jump l J Q (.panic ch) a w = Q (.panic ch) a w := rfl
theorem jump_goto (h : J a w) : Exit.jump l J Q (.goto l) a w := ⟨rfl, h⟩
end
attribute [local go_sem] jump_normal jump_exit jump_ret jump_panic
set_option maxHeartbeats 8000000 in
set_option maxRecDepth 100000 in
theorem token_All.calls (k : Nat) (a0 : ByteArray) (r1 : List S40) (r2 : Int) (r3 : Int) (w : World) (h : token_All.f k a0 = some (r1, r2, r3)) :
    Calls Tryd.prog 14 #[.string a0] w fun e w' => ∃ v0_ : Value, e = .returned (.tuple #[v0_, .int .i64 r2, .int .i64 r3]) ∧ Kd.R k40 40 w' w.heap.size (fun _ => True) v0_ r1 ∧ Below w.heap.size w w' := by
  have hu33 := Tryd.underlying40
  have HB := Aside0.mk (Below.refl w.heap.size w)
  by_cases c2 : (a0.size : Int) > 16384
  · have H : some (([] : List S40), (0 : Int), (2 : Int)) = some (r1, r2, r3) := by unfold token_All.f at h; rwa [if_pos c2] at h
    clear h
    have c2b0 : decide (16384 < (a0.size : Int)) = true := decide_eq_true c2
    have c2b1 : decide (16384 < a0.size) = true := decide_eq_true (by omega)
    clear c2
    simp only [Option.some.injEq, Prod.mk.injEq] at H
    obtain ⟨rfl, rfl, rfl⟩ := H
    go_enter Tryd.func14, Tryd.ntmps14
    go_wp2
    go_step3
    go_wp2
    (try rw [Exit.noGoto_ret])
    go_ret3
    exact ⟨_, rfl, Kd.R_nil _ _ _ _ _, by repeat (first | (with_reducible first | exact HB.out | apply below_alloc | apply pw_below_drewN | apply below_drew1) | exact HB.out)⟩
  · have H : token_All.l0 k a0 [] 0 = some (r1, r2, r3) := by unfold token_All.f at h; rwa [if_neg c2] at h
    clear h
    have c2b0 : decide (16384 < (a0.size : Int)) = false := decide_eq_false c2
    have c2b1 : decide (16384 < a0.size) = false := decide_eq_false (by omega)
    have hsz := Aside0.mk c2
    clear c2
    have H' := Aside0.mk H
    clear H
    go_enter Tryd.func14, Tryd.ntmps14
    go_wp2
    go_step3
    go_wp2
    go_step3
    go_wp2
    go_loopg [2, 5] k (fun kq v2 v5 w' => ∃ (x2 : List S40) (x5 : Int), v5 = .int .i64 x5 ∧ Aside0 (token_All.l0 kq a0 x2 x5 = some (r1, r2, r3)) ∧ Aside0 (kq ≤ k) ∧ Aside0 (Kd.R k40 40 w' w.heap.size (fun _ => True) v2 x2) ∧ Aside0 (Below w.heap.size w w'))
    case atStart => exact ⟨[], 0, rfl, H', ⟨Nat.le_refl _⟩, ⟨Kd.R_nil _ _ _ _ _⟩, ⟨by repeat (first | (with_reducible first | exact HB.out | apply below_alloc | apply pw_below_drewN | apply below_drew1) | exact HB.out)⟩⟩
    case round =>
      clear H'
      try clear c2b0
      try clear c2b1
      obtain ⟨x2, x5, rfl, HA, HK1, HO, HB⟩ := hrel
      cases gk with
      | zero => exact absurd HA.out (by simp [token_All.l0])
      | succ k1 =>
        have H := HA.out
        clear HA
        rw [token_All.l0] at H
        by_cases c4 : x5 < (a0.size : Int)
        · rw [if_pos c4] at H
          have c4b0 : decide (x5 < (a0.size : Int)) = true := decide_eq_true c4
          by_cases c5 : 0 ≤ x5
          · rw [if_pos c5] at H
            have c5b0 : decide (0 ≤ x5) = true := decide_eq_true c5
            obtain ⟨st, A0, H⟩ := Option.bind_eq_some_iff.mp H
            have AS := Aside0.mk A0
            clear A0
            have HH := Aside0.mk H
            clear H
            have p5 := eq_true c5
            have q5 := eq_true c4
            have hx5 := bt_at a0 x5
            clear c4 c5
            go_wp2
            refine wp_scope_k (B := ?B) 1 (fun a' w' => ∃ (x : S40) (en : Int) (kq gb : Nat) (v2 : Value) (y3 y4 y6 y12 y13 y14 y15 y16 y17 y18 y19 y20 y21 y22 y23 y24 y25 y26 y27 y28 y29 y30 y31 y32 y33 y34 y35 y36 y37 y38 y39 y40 y41 y42 y43 y44 y45 y46 y47 y48 y49 y50 y51 y52 y53 y54 y55 y56 y57 y58 y59 y60 y61 y62 y63 y64 y65 y66 y67 y68 y69 y70 y71 y72 y73 y74 y75 y76 y77 y78 y79 y80 y81 y82 y83 y84 y85 y86 y87 y88 y89 y90 y91 y92 y93 y94 y95 y96 y97 y98 y99 y100 y101 y102 y103 y104 y105 y106 y107 y108 y109 y110 y111 y112 y113 y114 y115 y116 y117 y118 y119 y120 y121 y122 y123 y124 y125 y126 y127 y128 y129 y130 y131 y132 y133 y134 y135 y136 y137 y138 y139 y140 y141 y142 y143 y144 y145 y146 y147 y148 y149 y150 y151 y152 y153 y154 y155 y156 y157 y158 y159 : Value), Aside0 (token_All.l0 kq a0 (x2 ++ [x]) en = some (r1, r2, r3)) ∧ Aside0 (kq ≤ k1) ∧ Aside0 (w'.heap[gb]? = some (.cells #[.int .u8 x.f0, .string x.f1, .int .i64 x.f2, .int .i64 x.f3] 40 (0, 0))) ∧ Aside0 (Kd.R k40 40 w' w.heap.size (fun k => k ≠ gb) v2 x2) ∧ Aside0 (Below w.heap.size w w') ∧ Aside0 (w.heap.size ≤ gb) ∧ Aside0 (x2.length < 3518437208883) ∧ a' = { tmps := #[.string a0, undef, v2, y3, y4, .int .i64 x5, y6, .pointer (some ⟨gb, 0, none⟩), .int .i64 en, .string a0, .int .i64 (a0.size : Int), .bool false, y12, y13, y14, y15, y16, y17, y18, y19, y20, y21, y22, y23, y24, y25, y26, y27, y28, y29, y30, y31, y32, y33, y34, y35, y36, y37, y38, y39, y40, y41, y42, y43, y44, y45, y46, y47, y48, y49, y50, y51, y52, y53, y54, y55, y56, y57, y58, y59, y60, y61, y62, y63, y64, y65, y66, y67, y68, y69, y70, y71, y72, y73, y74, y75, y76, y77, y78, y79, y80, y81, y82, y83, y84, y85, y86, y87, y88, y89, y90, y91, y92, y93, y94, y95, y96, y97, y98, y99, y100, y101, y102, y103, y104, y105, y106, y107, y108, y109, y110, y111, y112, y113, y114, y115, y116, y117, y118, y119, y120, y121, y122, y123, y124, y125, y126, y127, y128, y129, y130, y131, y132, y133, y134, y135, y136, y137, y138, y139, y140, y141, y142, y143, y144, y145, y146, y147, y148, y149, y150, y151, y152, y153, y154, y155, y156, y157, y158, y159, undef], defers := [] }) ?hf ?_ ?_
            case hf => simp only [findLabel]; rfl
            · intro a' w' hinv
              obtain ⟨x, hinv⟩ := hinv
              obtain ⟨en, hinv⟩ := hinv
              obtain ⟨kq, hinv⟩ := hinv
              obtain ⟨gb, hinv⟩ := hinv
              obtain ⟨v2, hinv⟩ := hinv
              obtain ⟨y3, hinv⟩ := hinv
              obtain ⟨y4, hinv⟩ := hinv
              obtain ⟨y6, hinv⟩ := hinv
              obtain ⟨y12, hinv⟩ := hinv
              obtain ⟨y13, hinv⟩ := hinv
              obtain ⟨y14, hinv⟩ := hinv
              obtain ⟨y15, hinv⟩ := hinv
              obtain ⟨y16, hinv⟩ := hinv
              obtain ⟨y17, hinv⟩ := hinv
              obtain ⟨y18, hinv⟩ := hinv
              obtain ⟨y19, hinv⟩ := hinv
              obtain ⟨y20, hinv⟩ := hinv
              obtain ⟨y21, hinv⟩ := hinv
              obtain ⟨y22, hinv⟩ := hinv
              obtain ⟨y23, hinv⟩ := hinv
              obtain ⟨y24, hinv⟩ := hinv
              obtain ⟨y25, hinv⟩ := hinv
              obtain ⟨y26, hinv⟩ := hinv
              obtain ⟨y27, hinv⟩ := hinv
              obtain ⟨y28, hinv⟩ := hinv
              obtain ⟨y29, hinv⟩ := hinv
              obtain ⟨y30, hinv⟩ := hinv
              obtain ⟨y31, hinv⟩ := hinv
              obtain ⟨y32, hinv⟩ := hinv
              obtain ⟨y33, hinv⟩ := hinv
              obtain ⟨y34, hinv⟩ := hinv
              obtain ⟨y35, hinv⟩ := hinv
              obtain ⟨y36, hinv⟩ := hinv
              obtain ⟨y37, hinv⟩ := hinv
              obtain ⟨y38, hinv⟩ := hinv
              obtain ⟨y39, hinv⟩ := hinv
              obtain ⟨y40, hinv⟩ := hinv
              obtain ⟨y41, hinv⟩ := hinv
              obtain ⟨y42, hinv⟩ := hinv
              obtain ⟨y43, hinv⟩ := hinv
              obtain ⟨y44, hinv⟩ := hinv
              obtain ⟨y45, hinv⟩ := hinv
              obtain ⟨y46, hinv⟩ := hinv
              obtain ⟨y47, hinv⟩ := hinv
              obtain ⟨y48, hinv⟩ := hinv
              obtain ⟨y49, hinv⟩ := hinv
              obtain ⟨y50, hinv⟩ := hinv
              obtain ⟨y51, hinv⟩ := hinv
              obtain ⟨y52, hinv⟩ := hinv
              obtain ⟨y53, hinv⟩ := hinv
              obtain ⟨y54, hinv⟩ := hinv
              obtain ⟨y55, hinv⟩ := hinv
              obtain ⟨y56, hinv⟩ := hinv
              obtain ⟨y57, hinv⟩ := hinv
              obtain ⟨y58, hinv⟩ := hinv
              obtain ⟨y59, hinv⟩ := hinv
              obtain ⟨y60, hinv⟩ := hinv
              obtain ⟨y61, hinv⟩ := hinv
              obtain ⟨y62, hinv⟩ := hinv
              obtain ⟨y63, hinv⟩ := hinv
              obtain ⟨y64, hinv⟩ := hinv
              obtain ⟨y65, hinv⟩ := hinv
              obtain ⟨y66, hinv⟩ := hinv
              obtain ⟨y67, hinv⟩ := hinv
              obtain ⟨y68, hinv⟩ := hinv
              obtain ⟨y69, hinv⟩ := hinv
              obtain ⟨y70, hinv⟩ := hinv
              obtain ⟨y71, hinv⟩ := hinv
              obtain ⟨y72, hinv⟩ := hinv
              obtain ⟨y73, hinv⟩ := hinv
              obtain ⟨y74, hinv⟩ := hinv
              obtain ⟨y75, hinv⟩ := hinv
              obtain ⟨y76, hinv⟩ := hinv
              obtain ⟨y77, hinv⟩ := hinv
              obtain ⟨y78, hinv⟩ := hinv
              obtain ⟨y79, hinv⟩ := hinv
              obtain ⟨y80, hinv⟩ := hinv
              obtain ⟨y81, hinv⟩ := hinv
              obtain ⟨y82, hinv⟩ := hinv
              obtain ⟨y83, hinv⟩ := hinv
              obtain ⟨y84, hinv⟩ := hinv
              obtain ⟨y85, hinv⟩ := hinv
              obtain ⟨y86, hinv⟩ := hinv
              obtain ⟨y87, hinv⟩ := hinv
              obtain ⟨y88, hinv⟩ := hinv
              obtain ⟨y89, hinv⟩ := hinv
              obtain ⟨y90, hinv⟩ := hinv
              obtain ⟨y91, hinv⟩ := hinv
              obtain ⟨y92, hinv⟩ := hinv
              obtain ⟨y93, hinv⟩ := hinv
              obtain ⟨y94, hinv⟩ := hinv
              obtain ⟨y95, hinv⟩ := hinv
              obtain ⟨y96, hinv⟩ := hinv
              obtain ⟨y97, hinv⟩ := hinv
              obtain ⟨y98, hinv⟩ := hinv
              obtain ⟨y99, hinv⟩ := hinv
              obtain ⟨y100, hinv⟩ := hinv
              obtain ⟨y101, hinv⟩ := hinv
              obtain ⟨y102, hinv⟩ := hinv
              obtain ⟨y103, hinv⟩ := hinv
              obtain ⟨y104, hinv⟩ := hinv
              obtain ⟨y105, hinv⟩ := hinv
              obtain ⟨y106, hinv⟩ := hinv
              obtain ⟨y107, hinv⟩ := hinv
              obtain ⟨y108, hinv⟩ := hinv
              obtain ⟨y109, hinv⟩ := hinv
              obtain ⟨y110, hinv⟩ := hinv
              obtain ⟨y111, hinv⟩ := hinv
              obtain ⟨y112, hinv⟩ := hinv
              obtain ⟨y113, hinv⟩ := hinv
              obtain ⟨y114, hinv⟩ := hinv
              obtain ⟨y115, hinv⟩ := hinv
              obtain ⟨y116, hinv⟩ := hinv
              obtain ⟨y117, hinv⟩ := hinv
              obtain ⟨y118, hinv⟩ := hinv
              obtain ⟨y119, hinv⟩ := hinv
              obtain ⟨y120, hinv⟩ := hinv
              obtain ⟨y121, hinv⟩ := hinv
              obtain ⟨y122, hinv⟩ := hinv
              obtain ⟨y123, hinv⟩ := hinv
              obtain ⟨y124, hinv⟩ := hinv
              obtain ⟨y125, hinv⟩ := hinv
              obtain ⟨y126, hinv⟩ := hinv
              obtain ⟨y127, hinv⟩ := hinv
              obtain ⟨y128, hinv⟩ := hinv
              obtain ⟨y129, hinv⟩ := hinv
              obtain ⟨y130, hinv⟩ := hinv
              obtain ⟨y131, hinv⟩ := hinv
              obtain ⟨y132, hinv⟩ := hinv
              obtain ⟨y133, hinv⟩ := hinv
              obtain ⟨y134, hinv⟩ := hinv
              obtain ⟨y135, hinv⟩ := hinv
              obtain ⟨y136, hinv⟩ := hinv
              obtain ⟨y137, hinv⟩ := hinv
              obtain ⟨y138, hinv⟩ := hinv
              obtain ⟨y139, hinv⟩ := hinv
              obtain ⟨y140, hinv⟩ := hinv
              obtain ⟨y141, hinv⟩ := hinv
              obtain ⟨y142, hinv⟩ := hinv
              obtain ⟨y143, hinv⟩ := hinv
              obtain ⟨y144, hinv⟩ := hinv
              obtain ⟨y145, hinv⟩ := hinv
              obtain ⟨y146, hinv⟩ := hinv
              obtain ⟨y147, hinv⟩ := hinv
              obtain ⟨y148, hinv⟩ := hinv
              obtain ⟨y149, hinv⟩ := hinv
              obtain ⟨y150, hinv⟩ := hinv
              obtain ⟨y151, hinv⟩ := hinv
              obtain ⟨y152, hinv⟩ := hinv
              obtain ⟨y153, hinv⟩ := hinv
              obtain ⟨y154, hinv⟩ := hinv
              obtain ⟨y155, hinv⟩ := hinv
              obtain ⟨y156, hinv⟩ := hinv
              obtain ⟨y157, hinv⟩ := hinv
              obtain ⟨y158, hinv⟩ := hinv
              obtain ⟨y159, hinv⟩ := hinv
              obtain ⟨HN, HKQ, BK, HO, HB, GW, HL, ha⟩ := hinv
              subst ha
              have hcz0 : w'.cell? ⟨gb, 0, none⟩ = some (.int .u8 x.f0) := (blk_cell BK.out 0).trans rfl
              have hcz1 : w'.cell? ⟨gb, 1, none⟩ = some (.string x.f1) := (blk_cell BK.out 1).trans rfl
              have hcz2 : w'.cell? ⟨gb, 2, none⟩ = some (.int .i64 x.f2) := (blk_cell BK.out 2).trans rfl
              have hcz3 : w'.cell? ⟨gb, 3, none⟩ = some (.int .i64 x.f3) := (blk_cell BK.out 3).trans rfl
              go_wp2_with (first | ((with_reducible refine gate_builtin (b := .append) (xs := #[.tmp 155, .tmp 157]) rfl ?_); at_builtin; refine Kd.R_append k40 (w0 := w) w.heap.size rfl (.tmp 155) (.tmp 157) 22 40 (.agg #[(.int .u8 0), (.string ⟨#[]⟩), (.int .i64 0), (.int .i64 0)]) 40 rfl Tryd.underlying22 info40 rfl (by decide) (by omega) v2 x2 x [.int .u8 x.f0, .string x.f1, .int .i64 x.f2, .int .i64 x.f3] (fun _ => True) (fun _ => False) rfl (by first | (go_simp; done) | (go_simp; rfl)) ?aP (fun _ hk => hk.elim) ?aF ?aO ?aB ?aS ?aL ?_; (case aP => exact k40_mkM _ _ _ x); (case aB => exact HB.out); (case aF => exact (fun _ _ => trivial)); (case aO => exact Kd.R_mono HO.out (fun _ _ => trivial)); (case aS => exact HB.out.size); (case aL => have := HL.out; omega); intro v3 w3 ho hb hg hat; clear HO HB hat hg; have HO := Aside0.mk ho; have HB := Aside0.mk hb; clear ho hb))
              (try simp only [Exit.noGoto_normal, Exit.inBlock, Exit.then])
              (try go_wp2)
              go_roundg kq
              case measure => have := HKQ.out; omega
              case rel => exact ⟨x2 ++ [x], en, rfl, HN, ⟨by have := HKQ.out; have := HK1.out; omega⟩, HO, HB⟩
            · intro J' hJ' hB
              go_upto_region 8 with (first | ((with_reducible refine gate_dst (N := 7) rfl ?_); refine box_event ?hg (N := 7) ?hd (cs := #[.int .u8 0, .string (⟨#[]⟩ : ByteArray), .int .i64 0, .int .i64 0]) (t := 40) ?hr ?_; (case hd => rfl); (case hg => rfl); (case hr => first | (go_simp; done) | (go_simp; rfl)); intro gb hg w1 hbox hb; have n0 := Aside0.mk (Kd.R_below (Kd.R_mono (ok' := fun k => k ≠ gb) (Kd.R_bound (by (with_reducible repeat (first | apply Kd.R_alloc | apply Kd.R_drewN | apply Kd.R_drew)); exact HO.out)) (fun k hk e_ => by rw [hg] at e_; exact absurd hk.2.2.1 (by rw [e_]; exact Nat.lt_irrefl _))) hb); have n1 := Aside0.mk (below_step (by repeat (first | (with_reducible first | exact HB.out | apply below_alloc | apply pw_below_drewN | apply below_drew1) | exact HB.out)) hb); have n2 := Aside0.mk hbox; have n3 := Aside0.mk ((by rw [hg]; exact (below_size (by repeat (first | (with_reducible first | exact HB.out | apply below_alloc | apply pw_below_drewN | apply below_drew1) | exact HB.out)))) : w.heap.size ≤ gb); clear HO HB; have HO := n0; have HB := n1; have BK := n2; have GW := n3; clear n0 n1 n2 n3; clear hb hbox hg; have hcz0 : w1.cell? ⟨gb, 0, none⟩ = some (.int .u8 0) := (blk_cell BK.out 0).trans rfl; have hcz1 : w1.cell? ⟨gb, 1, none⟩ = some (.string (⟨#[]⟩ : ByteArray)) := (blk_cell BK.out 1).trans rfl; have hcz2 : w1.cell? ⟨gb, 2, none⟩ = some (.int .i64 0) := (blk_cell BK.out 2).trans rfl; have hcz3 : w1.cell? ⟨gb, 3, none⟩ = some (.int .i64 0) := (blk_cell BK.out 3).trans rfl; have hfz0 := blk_frozen BK.out 0; have hfz1 := blk_frozen BK.out 1; have hfz2 := blk_frozen BK.out 2; have hfz3 := blk_frozen BK.out 3))
              clear H
              obtain ⟨w2, hw2⟩ : ∃ w2 : World, w2 = ((((w1.setCell ⟨gb, 0, none⟩ (.int .u8 0)).setCell ⟨gb, 1, none⟩ (.string ⟨#[]⟩)).setCell ⟨gb, 2, none⟩ (.int .i64 0)).setCell ⟨gb, 3, none⟩ (.int .i64 x5)) := ⟨_, rfl⟩
              have BK2 : w2.heap[gb]? = some (.cells #[.int .u8 0, .string ⟨#[]⟩, .int .i64 0, .int .i64 x5] 40 (0, 0)) := by rw [hw2]; exact blk_set (blk_set (blk_set (blk_set BK.out 0 _) 1 _) 2 _) 3 _
              have HB2 : Below w.heap.size w w2 := by rw [hw2]; exact below_set (below_set (below_set (below_set HB.out GW.out) GW.out) GW.out) GW.out
              have HO2 : Kd.R k40 40 w2 w.heap.size (fun k => k ≠ gb) u2 x2 := by rw [hw2]; exact (Kd.R_far (p := ⟨gb, 3, none⟩) (Kd.R_far (p := ⟨gb, 2, none⟩) (Kd.R_far (p := ⟨gb, 1, none⟩) (Kd.R_far (p := ⟨gb, 0, none⟩) HO.out (fun _ h => h) _) (fun _ h => h) _) (fun _ h => h) _) (fun _ h => h) _)
              rw [← hw2]
              clear hw2 hcz0 hcz1 hcz2 hcz3 hfz0 hfz1 hfz2 hfz3 HO HB BK
              have BK := Aside0.mk BK2
              have HB := Aside0.mk HB2
              have HO := Aside0.mk HO2
              clear BK2 HB2 HO2 w1
              have hcz0 : w2.cell? ⟨gb, 0, none⟩ = some (.int .u8 0) := (blk_cell BK.out 0).trans rfl
              have hcz1 : w2.cell? ⟨gb, 1, none⟩ = some (.string (⟨#[]⟩ : ByteArray)) := (blk_cell BK.out 1).trans rfl
              have hcz2 : w2.cell? ⟨gb, 2, none⟩ = some (.int .i64 0) := (blk_cell BK.out 2).trans rfl
              have hcz3 : w2.cell? ⟨gb, 3, none⟩ = some (.int .i64 x5) := (blk_cell BK.out 3).trans rfl
              have hfz0 := blk_frozen BK.out 0
              have hfz1 := blk_frozen BK.out 1
              have hfz2 := blk_frozen BK.out 2
              have hfz3 := blk_frozen BK.out 3
              have HX := Aside0.mk (⟨of_eq_true p5, of_eq_true q5⟩ : 0 ≤ x5 ∧ x5 < (a0.size : Int))
              have he1 : wrap64 (x5 + 1) = x5 + 1 := by have := HX.out; have := hsz.out; unfold wrap64; omega
              have HE := Aside0.mk he1
              clear he1
              have A := AS.out
              clear AS
              unfold token_All.one at A
              by_cases c32 : bt a0 x5 = 32
              · rw [if_pos c32] at A
                have c32b0 : ((bt a0 x5) == 32) = true := beq_iff_eq.mpr c32
                have c32b1 : ((bt a0 x5) != 32) = false := bne_eq_false_iff_eq.mpr c32
                clear c32
                obtain rfl := Option.some.inj A
                clear A
                go_wp2
                (try simp only [jump_exit, Exit.inBlock, Exit.then, ↓reduceIte])
                (try go_wp2)
                go_roundg k1
                case measure => omega
                case rel => exact ⟨x2, wrap64 (x5 + 1), (by first | rfl | (simp; done) | (simp [*]; done)), HH, ⟨by have := HK1.out; omega⟩, ⟨Kd.R_mono (by (with_reducible repeat (first | apply Kd.R_alloc | apply Kd.R_drewN | apply Kd.R_drew)); exact HO.out) (fun _ _ => trivial)⟩, ⟨by repeat (first | (with_reducible first | exact HB.out | apply below_alloc | apply pw_below_drewN | apply below_drew1 | refine below_set ?_ GW.out) | exact HB.out)⟩⟩
              rw [if_neg c32] at A
              have c32b0 : ((bt a0 x5) == 32) = false := beq_eq_false_iff_ne.mpr c32
              have c32b1 : ((bt a0 x5) != 32) = true := bne_iff_ne.mpr c32
              clear c32
              by_cases c10 : bt a0 x5 = 10
              · rw [if_pos c10] at A
                have c10b0 : ((bt a0 x5) == 10) = true := beq_iff_eq.mpr c10
                have c10b1 : ((bt a0 x5) != 10) = false := bne_eq_false_iff_eq.mpr c10
                clear c10
                obtain rfl := Option.some.inj A
                clear A
                go_wp2
                (try simp only [jump_exit, Exit.inBlock, Exit.then, ↓reduceIte])
                (try go_wp2)
                go_roundg k1
                case measure => omega
                case rel => exact ⟨x2, wrap64 (x5 + 1), (by first | rfl | (simp; done) | (simp [*]; done)), HH, ⟨by have := HK1.out; omega⟩, ⟨Kd.R_mono (by (with_reducible repeat (first | apply Kd.R_alloc | apply Kd.R_drewN | apply Kd.R_drew)); exact HO.out) (fun _ _ => trivial)⟩, ⟨by repeat (first | (with_reducible first | exact HB.out | apply below_alloc | apply pw_below_drewN | apply below_drew1 | refine below_set ?_ GW.out) | exact HB.out)⟩⟩
              rw [if_neg c10] at A
              have c10b0 : ((bt a0 x5) == 10) = false := beq_eq_false_iff_ne.mpr c10
              have c10b1 : ((bt a0 x5) != 10) = true := bne_iff_ne.mpr c10
              clear c10
              by_cases c35 : bt a0 x5 = 35
              · rw [if_pos c35] at A
                have c35b0 : ((bt a0 x5) == 35) = true := beq_iff_eq.mpr c35
                have c35b1 : ((bt a0 x5) != 35) = false := bne_eq_false_iff_eq.mpr c35
                clear c35
                obtain ⟨j, AR, e1⟩ := Option.bind_eq_some_iff.mp A
                clear A
                obtain rfl := Option.some.inj e1
                have AR := Aside0.mk AR
                go_wp2
                go_loopg [5] k1 (fun kq v5 w' => ∃ x : Int, v5 = .int .i64 x ∧ Aside0 (token_All.rem kq a0 x = some j) ∧ Aside0 (0 ≤ x) ∧ w2 = w')
                case atStart => exact ⟨x5, rfl, AR, ⟨HX.out.1⟩, rfl⟩
                case round =>
                  clear AR
                  obtain ⟨x, rfl, HA, HX0, rfl⟩ := hrel
                  cases gk with
                  | zero => exact absurd HA.out (by simp [token_All.rem])
                  | succ k2 =>
                    have H := HA.out
                    clear HA
                    rw [token_All.rem] at H
                    by_cases d1 : x < (a0.size : Int)
                    · rw [if_pos d1] at H
                      have d1b0 : decide (x < (a0.size : Int)) = true := decide_eq_true d1
                      have px := eq_true HX0.out
                      have qx := eq_true d1
                      have hx6 := bt_at a0 x
                      have HD := Aside0.mk d1
                      clear d1
                      by_cases d2 : bt a0 x = 10
                      · rw [if_pos d2] at H
                        have d2b0 : ((bt a0 x) == 10) = true := beq_iff_eq.mpr d2
                        have d2b1 : ((bt a0 x) != 10) = false := bne_eq_false_iff_eq.mpr d2
                        clear d2
                        obtain rfl := Option.some.inj H
                        clear H
                        go_wp2
                        (try simp only [jump_exit, Exit.inBlock, Exit.then, ↓reduceIte])
                        (try go_wp2)
                        go_roundg k1
                        case measure => omega
                        case rel => exact ⟨x2, _, (by first | rfl | (simp; done) | (simp [*]; done)), HH, ⟨by have := HK1.out; omega⟩, ⟨Kd.R_mono (by (with_reducible repeat (first | apply Kd.R_alloc | apply Kd.R_drewN | apply Kd.R_drew)); exact HO.out) (fun _ _ => trivial)⟩, ⟨by repeat (first | (with_reducible first | exact HB.out | apply below_alloc | apply pw_below_drewN | apply below_drew1 | refine below_set ?_ GW.out) | exact HB.out)⟩⟩
                      · rw [if_neg d2] at H
                        have d2b0 : ((bt a0 x) == 10) = false := beq_eq_false_iff_ne.mpr d2
                        have d2b1 : ((bt a0 x) != 10) = true := bne_iff_ne.mpr d2
                        clear d2
                        have H2 := Aside0.mk H
                        clear H
                        go_wp2
                        go_roundg k2
                        case measure => omega
                        case rel => exact ⟨wrap64 (x + 1), (by first | rfl | (simp; done) | (simp [*]; done)), H2, ⟨by have := HX0.out; have := HD.out; have := hsz.out; unfold wrap64; omega⟩, rfl⟩
                    · rw [if_neg d1] at H
                      have d1b0 : decide (x < (a0.size : Int)) = false := decide_eq_false d1
                      clear d1
                      obtain rfl := Option.some.inj H
                      clear H
                      go_wp2
                      (try simp only [jump_exit, Exit.inBlock, Exit.then, ↓reduceIte])
                      (try go_wp2)
                      go_roundg k1
                      case measure => omega
                      case rel => exact ⟨x2, _, (by first | rfl | (simp; done) | (simp [*]; done)), HH, ⟨by have := HK1.out; omega⟩, ⟨Kd.R_mono (by (with_reducible repeat (first | apply Kd.R_alloc | apply Kd.R_drewN | apply Kd.R_drew)); exact HO.out) (fun _ _ => trivial)⟩, ⟨by repeat (first | (with_reducible first | exact HB.out | apply below_alloc | apply pw_below_drewN | apply below_drew1 | refine below_set ?_ GW.out) | exact HB.out)⟩⟩
              rw [if_neg c35] at A
              have c35b0 : ((bt a0 x5) == 35) = false := beq_eq_false_iff_ne.mpr c35
              have c35b1 : ((bt a0 x5) != 35) = true := bne_iff_ne.mpr c35
              clear c35
              obtain ⟨bL, AL, A⟩ := Option.bind_eq_some_iff.mp A
              have AL := Aside0.mk AL
              by_cases cL : bL = true
              · subst cL
                rw [if_pos rfl] at A
                obtain ⟨j, AW, A⟩ := Option.bind_eq_some_iff.mp A
                have AW := Aside0.mk AW
                go_wp2_with (first | (go_at_call 41; (with_reducible refine (token_letter.calls (bt a0 x5) true _ AL.out).mono ?_); rintro e w' ⟨rfl, ⟨nd, rfl⟩⟩))
                go_loopg [8] k1 (fun kq v8 w' => ∃ x : Int, v8 = .int .i64 x ∧ Aside0 (token_All.wd kq a0 x = some j) ∧ Aside0 (x5 ≤ x ∧ x ≤ (a0.size : Int)) ∧ Drawn0 w2 w')
                case atStart => exact ⟨wrap64 (x5 + 1), rfl, AW, ⟨by have := HX.out; rw [HE.out]; omega⟩, ⟨⟨_, rfl⟩⟩⟩
                case round =>
                  clear AW
                  obtain ⟨x, rfl, HA, HX0, ⟨m1, rfl⟩⟩ := hrel
                  cases gk with
                  | zero => exact absurd HA.out (by simp [token_All.wd])
                  | succ k2 =>
                    have H := HA.out
                    clear HA
                    rw [token_All.wd] at H
                    by_cases d1 : x < (a0.size : Int)
                    · rw [if_pos d1] at H
                      have d1b0 : decide (x < (a0.size : Int)) = true := decide_eq_true d1
                      have px := eq_true (Int.le_trans HX.out.1 HX0.out.1)
                      have qx := eq_true d1
                      have hx6 := bt_at a0 x
                      have HD := Aside0.mk d1
                      clear d1
                      obtain ⟨bI, AI, H⟩ := Option.bind_eq_some_iff.mp H
                      have AI := Aside0.mk AI
                      by_cases dI : bI = true
                      · subst dI
                        rw [if_pos rfl] at H
                        have H2 := Aside0.mk H
                        clear H
                        go_wp2_with (first | (go_at_call 42; (with_reducible refine (token_inner.calls (bt a0 x) true _ AI.out).mono ?_); rintro e w' ⟨rfl, ⟨nd2, rfl⟩⟩))
                        go_roundg k2
                        case measure => omega
                        case rel => exact ⟨wrap64 (x + 1), (by first | rfl | (simp; done) | (simp [*]; done)), H2, ⟨by have := HX0.out; have := HD.out; have := HX.out; have := hsz.out; unfold wrap64; omega⟩, by repeat (first | exact Drawn0.refl _ | apply Drawn0.step)⟩
                      · replace dI := Bool.eq_false_iff.mpr dI
                        subst dI
                        rw [if_neg (by decide)] at H
                        obtain rfl := Option.some.inj H
                        clear H
                        by_cases c24 : wrap64 (x - x5) > 24
                        · rw [if_pos c24] at A
                          obtain rfl := Option.some.inj A
                          clear A
                          have c24b0 : decide (24 < wrap64 (x - x5)) = true := decide_eq_true c24
                          clear c24
                          have H := HH.out
                          clear HH
                          simp only [Option.some.injEq, Prod.mk.injEq] at H
                          obtain ⟨rfl, rfl, rfl⟩ := H
                          go_wp2_with (first | (go_at_call 42; (with_reducible refine (token_inner.calls (bt a0 x) false _ AI.out).mono ?_); rintro e w' ⟨rfl, ⟨nd2, rfl⟩⟩))
                          (try simp only [jump_ret, Exit.inBlock, Exit.then, Exit.noGoto_ret])
                          go_ret3
                          exact ⟨_, (by first | rfl | (simp; done) | (simp [*]; done)), Kd.R_nil _ _ _ _ _, by repeat (first | (with_reducible first | exact HB.out | apply below_alloc | apply pw_below_drewN | apply below_drew1 | refine below_set ?_ GW.out) | exact HB.out)⟩
                        · rw [if_neg c24] at A
                          have c24b0 : decide (24 < wrap64 (x - x5)) = false := decide_eq_false c24
                          clear c24
                          rw [if_pos HX0.out.2, if_pos HX0.out.1] at A
                          obtain rfl := Option.some.inj A
                          clear A
                          obtain ⟨HL, HN⟩ := ite_some HH.out
                          have HN := Aside0.mk HN
                          have HL := Aside0.mk HL
                          clear HH
                          have s1 := eq_true HX.out.1
                          have s2 := eq_true HX0.out.1
                          have s3 := eq_true HX0.out.2
                          have s1b : decide (0 ≤ x5) = true := decide_eq_true HX.out.1
                          have s2b : decide (x5 ≤ x) = true := decide_eq_true HX0.out.1
                          have s3b : decide (x ≤ (a0.size : Int)) = true := decide_eq_true HX0.out.2
                          go_wp2_with (first | (go_at_call 42; (with_reducible refine (token_inner.calls (bt a0 x) false _ AI.out).mono ?_); rintro e w' ⟨rfl, ⟨nd2, rfl⟩⟩))
                          go_region
                          all_goals go_wp2
                          all_goals (go_step3; (try simp only [Exit.inBlock, Exit.then]); refine jump_goto (hJ' _ _ ?_); (repeat apply Exists.intro); refine ⟨HN, ⟨Nat.le_refl _⟩, ?_, ?_, ?_, GW, HL, rfl⟩)
                          all_goals first | exact ⟨by (with_reducible repeat (first | refine blk_drewN ?_ _ | refine blk_drew ?_ | refine blk_alloc ?_ _)); exact (blk_set (blk_set BK.out 0 (.int .u8 1)) 1 (.string _))⟩ | exact ⟨by (with_reducible repeat (first | apply Kd.R_alloc | apply Kd.R_drewN | apply Kd.R_drew)); exact (Kd.R_far (p := ⟨gb, 1, none⟩) (Kd.R_far (p := ⟨gb, 0, none⟩) HO.out (fun _ h => h) _) (fun _ h => h) _)⟩ | exact ⟨by repeat (first | (with_reducible first | exact HB.out | apply below_alloc | apply pw_below_drewN | apply below_drew1 | refine below_set ?_ GW.out) | exact HB.out)⟩
                    · rw [if_neg d1] at H
                      have d1b0 : decide (x < (a0.size : Int)) = false := decide_eq_false d1
                      clear d1
                      obtain rfl := Option.some.inj H
                      clear H
                      by_cases c24 : wrap64 (x - x5) > 24
                      · rw [if_pos c24] at A
                        obtain rfl := Option.some.inj A
                        clear A
                        have c24b0 : decide (24 < wrap64 (x - x5)) = true := decide_eq_true c24
                        clear c24
                        have H := HH.out
                        clear HH
                        simp only [Option.some.injEq, Prod.mk.injEq] at H
                        obtain ⟨rfl, rfl, rfl⟩ := H
                        go_wp2_with (first | fail)
                        (try simp only [jump_ret, Exit.inBlock, Exit.then, Exit.noGoto_ret])
                        go_ret3
                        exact ⟨_, (by first | rfl | (simp; done) | (simp [*]; done)), Kd.R_nil _ _ _ _ _, by repeat (first | (with_reducible first | exact HB.out | apply below_alloc | apply pw_below_drewN | apply below_drew1 | refine below_set ?_ GW.out) | exact HB.out)⟩
                      · rw [if_neg c24] at A
                        have c24b0 : decide (24 < wrap64 (x - x5)) = false := decide_eq_false c24
                        clear c24
                        rw [if_pos HX0.out.2, if_pos HX0.out.1] at A
                        obtain rfl := Option.some.inj A
                        clear A
                        obtain ⟨HL, HN⟩ := ite_some HH.out
                        have HN := Aside0.mk HN
                        have HL := Aside0.mk HL
                        clear HH
                        have s1 := eq_true HX.out.1
                        have s2 := eq_true HX0.out.1
                        have s3 := eq_true HX0.out.2
                        have s1b : decide (0 ≤ x5) = true := decide_eq_true HX.out.1
                        have s2b : decide (x5 ≤ x) = true := decide_eq_true HX0.out.1
                        have s3b : decide (x ≤ (a0.size : Int)) = true := decide_eq_true HX0.out.2
                        go_wp2_with (first | fail)
                        go_region
                        all_goals go_wp2
                        all_goals (go_step3; (try simp only [Exit.inBlock, Exit.then]); refine jump_goto (hJ' _ _ ?_); (repeat apply Exists.intro); refine ⟨HN, ⟨Nat.le_refl _⟩, ?_, ?_, ?_, GW, HL, rfl⟩)
                        all_goals first | exact ⟨by (with_reducible repeat (first | refine blk_drewN ?_ _ | refine blk_drew ?_ | refine blk_alloc ?_ _)); exact (blk_set (blk_set BK.out 0 (.int .u8 1)) 1 (.string _))⟩ | exact ⟨by (with_reducible repeat (first | apply Kd.R_alloc | apply Kd.R_drewN | apply Kd.R_drew)); exact (Kd.R_far (p := ⟨gb, 1, none⟩) (Kd.R_far (p := ⟨gb, 0, none⟩) HO.out (fun _ h => h) _) (fun _ h => h) _)⟩ | exact ⟨by repeat (first | (with_reducible first | exact HB.out | apply below_alloc | apply pw_below_drewN | apply below_drew1 | refine below_set ?_ GW.out) | exact HB.out)⟩
              replace cL := Bool.eq_false_iff.mpr cL
              subst cL
              rw [if_neg (by decide)] at A
              obtain ⟨bD, AD, A⟩ := Option.bind_eq_some_iff.mp A
              have AD := Aside0.mk AD
              by_cases cD : bD = true
              · subst cD
                rw [if_pos rfl] at A
                obtain ⟨⟨q1, q2, q3, q4⟩, AN, A⟩ := Option.bind_eq_some_iff.mp A
                have AN := Aside0.mk AN
                dsimp only at A
                by_cases cq : q4 = 0
                · rw [if_pos cq] at A
                  have cqb0 : (q4 == 0) = true := beq_iff_eq.mpr cq
                  have cqb1 : (q4 != 0) = false := bne_eq_false_iff_eq.mpr cq
                  clear cq
                  obtain rfl := Option.some.inj A
                  clear A
                  obtain ⟨HL, HN⟩ := ite_some HH.out
                  have HN := Aside0.mk HN
                  have HL := Aside0.mk HL
                  clear HH
                  go_wp2_with (first | (go_at_call 41; (with_reducible refine (token_letter.calls (bt a0 x5) false _ AL.out).mono ?_); rintro e w' ⟨rfl, ⟨nd, rfl⟩⟩) | (go_at_call 43; (with_reducible refine (token_digit.calls (bt a0 x5) true _ AD.out).mono ?_); rintro e w' ⟨rfl, ⟨nd3, rfl⟩⟩) | (go_at_call 44; (with_reducible refine (token_number.calls k1 a0 x5 q1 q2 q3 q4 _ AN.out).mono ?_); rintro e w' ⟨rfl, ⟨nd4, rfl⟩⟩))
                  all_goals (go_step3; (try simp only [Exit.inBlock, Exit.then]); refine jump_goto (hJ' _ _ ?_); (repeat apply Exists.intro); refine ⟨HN, ⟨Nat.le_refl _⟩, ?_, ?_, ?_, GW, HL, rfl⟩)
                  all_goals first | exact ⟨by (with_reducible repeat (first | refine blk_drewN ?_ _ | refine blk_drew ?_ | refine blk_alloc ?_ _)); exact (blk_set (blk_set BK.out 0 (.int .u8 2)) 2 (.int .i64 q1))⟩ | exact ⟨by (with_reducible repeat (first | apply Kd.R_alloc | apply Kd.R_drewN | apply Kd.R_drew)); exact (Kd.R_far (p := ⟨gb, 2, none⟩) (Kd.R_far (p := ⟨gb, 0, none⟩) HO.out (fun _ h => h) _) (fun _ h => h) _)⟩ | exact ⟨by repeat (first | (with_reducible first | exact HB.out | apply below_alloc | apply pw_below_drewN | apply below_drew1 | refine below_set ?_ GW.out) | exact HB.out)⟩
                · rw [if_neg cq] at A
                  have cqb0 : (q4 == 0) = false := beq_eq_false_iff_ne.mpr cq
                  have cqb1 : (q4 != 0) = true := bne_iff_ne.mpr cq
                  clear cq
                  obtain rfl := Option.some.inj A
                  clear A
                  have H := HH.out
                  clear HH
                  simp only [Option.some.injEq, Prod.mk.injEq] at H
                  obtain ⟨rfl, rfl, rfl⟩ := H
                  go_wp2_with (first | (go_at_call 41; (with_reducible refine (token_letter.calls (bt a0 x5) false _ AL.out).mono ?_); rintro e w' ⟨rfl, ⟨nd, rfl⟩⟩) | (go_at_call 43; (with_reducible refine (token_digit.calls (bt a0 x5) true _ AD.out).mono ?_); rintro e w' ⟨rfl, ⟨nd3, rfl⟩⟩) | (go_at_call 44; (with_reducible refine (token_number.calls k1 a0 x5 q1 q2 q3 q4 _ AN.out).mono ?_); rintro e w' ⟨rfl, ⟨nd4, rfl⟩⟩))
                  (try simp only [jump_ret, Exit.inBlock, Exit.then, Exit.noGoto_ret])
                  go_ret3
                  exact ⟨_, (by first | rfl | (simp; done) | (simp [*]; done)), Kd.R_nil _ _ _ _ _, by repeat (first | (with_reducible first | exact HB.out | apply below_alloc | apply pw_below_drewN | apply below_drew1 | refine below_set ?_ GW.out) | exact HB.out)⟩
              replace cD := Bool.eq_false_iff.mpr cD
              subst cD
              rw [if_neg (by decide)] at A
              by_cases c34 : bt a0 x5 = 34
              · rw [if_pos c34] at A
                have c34b0 : ((bt a0 x5) == 34) = true := beq_iff_eq.mpr c34
                have c34b1 : ((bt a0 x5) != 34) = false := bne_eq_false_iff_eq.mpr c34
                clear c34
                obtain ⟨⟨q1, q2, q3, q4⟩, AT, A⟩ := Option.bind_eq_some_iff.mp A
                have AT := Aside0.mk AT
                dsimp only at A
                by_cases cq : q4 = 0
                · rw [if_pos cq] at A
                  have cqb0 : (q4 == 0) = true := beq_iff_eq.mpr cq
                  have cqb1 : (q4 != 0) = false := bne_eq_false_iff_eq.mpr cq
                  clear cq
                  obtain rfl := Option.some.inj A
                  clear A
                  obtain ⟨HL, HN⟩ := ite_some HH.out
                  have HN := Aside0.mk HN
                  have HL := Aside0.mk HL
                  clear HH
                  go_wp2_with (first | (go_at_call 41; (with_reducible refine (token_letter.calls (bt a0 x5) false _ AL.out).mono ?_); rintro e w' ⟨rfl, ⟨nd, rfl⟩⟩) | (go_at_call 43; (with_reducible refine (token_digit.calls (bt a0 x5) false _ AD.out).mono ?_); rintro e w' ⟨rfl, ⟨nd3, rfl⟩⟩) | (go_at_call 45; (with_reducible refine (token_text.calls k1 a0 x5 q1 q2 q3 q4 _ AT.out).mono ?_); rintro e wT ⟨rfl, hb⟩; have n0 := Aside0.mk (Kd.R_below (by (with_reducible repeat (first | apply Kd.R_alloc | apply Kd.R_drewN | apply Kd.R_drew)); exact Kd.R_far (p := ⟨gb, 0, none⟩) HO.out (fun _ h => h) _) hb); have n1 := Aside0.mk (below_step (by repeat (first | (with_reducible first | exact HB.out | apply below_alloc | apply pw_below_drewN | apply below_drew1 | refine below_set ?_ GW.out) | exact HB.out)) hb); have n2 := Aside0.mk (blk_below (g := gb) (o := .cells #[.int .u8 3, .string ⟨#[]⟩, .int .i64 0, .int .i64 x5] 40 (0, 0)) (by (with_reducible repeat (first | refine blk_drewN ?_ _ | refine blk_drew ?_ | refine blk_alloc ?_ _)); exact blk_set BK.out 0 _) hb); clear HO HB BK hb; have HO := n0; have HB := n1; have BK := n2; clear n0 n1 n2; have hct1 : wT.cell? ⟨gb, 1, none⟩ = some (.string (⟨#[]⟩ : ByteArray)) := (blk_cell BK.out 1).trans rfl; have hft1 := blk_frozen BK.out 1))
                  all_goals (go_step3; (try simp only [Exit.inBlock, Exit.then]); refine jump_goto (hJ' _ _ ?_); (repeat apply Exists.intro); refine ⟨HN, ⟨Nat.le_refl _⟩, ?_, ?_, ?_, GW, HL, rfl⟩)
                  all_goals first | exact ⟨by (with_reducible repeat (first | refine blk_drewN ?_ _ | refine blk_drew ?_ | refine blk_alloc ?_ _)); exact (blk_set BK.out 1 (.string q1))⟩ | exact ⟨by (with_reducible repeat (first | apply Kd.R_alloc | apply Kd.R_drewN | apply Kd.R_drew)); exact (Kd.R_far (p := ⟨gb, 1, none⟩) HO.out (fun _ h => h) _)⟩ | exact ⟨by repeat (first | (with_reducible first | exact HB.out | apply below_alloc | apply pw_below_drewN | apply below_drew1 | refine below_set ?_ GW.out) | exact HB.out)⟩
                · rw [if_neg cq] at A
                  have cqb0 : (q4 == 0) = false := beq_eq_false_iff_ne.mpr cq
                  have cqb1 : (q4 != 0) = true := bne_iff_ne.mpr cq
                  clear cq
                  obtain rfl := Option.some.inj A
                  clear A
                  have H := HH.out
                  clear HH
                  simp only [Option.some.injEq, Prod.mk.injEq] at H
                  obtain ⟨rfl, rfl, rfl⟩ := H
                  go_wp2_with (first | (go_at_call 41; (with_reducible refine (token_letter.calls (bt a0 x5) false _ AL.out).mono ?_); rintro e w' ⟨rfl, ⟨nd, rfl⟩⟩) | (go_at_call 43; (with_reducible refine (token_digit.calls (bt a0 x5) false _ AD.out).mono ?_); rintro e w' ⟨rfl, ⟨nd3, rfl⟩⟩) | (go_at_call 45; (with_reducible refine (token_text.calls k1 a0 x5 q1 q2 q3 q4 _ AT.out).mono ?_); rintro e wT ⟨rfl, hb⟩; have n0 := Aside0.mk (Kd.R_below (by (with_reducible repeat (first | apply Kd.R_alloc | apply Kd.R_drewN | apply Kd.R_drew)); exact Kd.R_far (p := ⟨gb, 0, none⟩) HO.out (fun _ h => h) _) hb); have n1 := Aside0.mk (below_step (by repeat (first | (with_reducible first | exact HB.out | apply below_alloc | apply pw_below_drewN | apply below_drew1 | refine below_set ?_ GW.out) | exact HB.out)) hb); have n2 := Aside0.mk (blk_below (g := gb) (o := .cells #[.int .u8 3, .string ⟨#[]⟩, .int .i64 0, .int .i64 x5] 40 (0, 0)) (by (with_reducible repeat (first | refine blk_drewN ?_ _ | refine blk_drew ?_ | refine blk_alloc ?_ _)); exact blk_set BK.out 0 _) hb); clear HO HB BK hb; have HO := n0; have HB := n1; have BK := n2; clear n0 n1 n2; have hct1 : wT.cell? ⟨gb, 1, none⟩ = some (.string (⟨#[]⟩ : ByteArray)) := (blk_cell BK.out 1).trans rfl; have hft1 := blk_frozen BK.out 1))
                  (try simp only [jump_ret, Exit.inBlock, Exit.then, Exit.noGoto_ret])
                  go_ret3
                  exact ⟨_, (by first | rfl | (simp; done) | (simp [*]; done)), Kd.R_nil _ _ _ _ _, by repeat (first | (with_reducible first | exact HB.out | apply below_alloc | apply pw_below_drewN | apply below_drew1 | refine below_set ?_ GW.out) | exact HB.out)⟩
              rw [if_neg c34] at A
              have c34b0 : ((bt a0 x5) == 34) = false := beq_eq_false_iff_ne.mpr c34
              have c34b1 : ((bt a0 x5) != 34) = true := bne_iff_ne.mpr c34
              clear c34
              by_cases c33 : bt a0 x5 = 33
              · rw [if_pos c33] at A
                have c33b0 : ((bt a0 x5) == 33) = true := beq_iff_eq.mpr c33
                have c33b1 : ((bt a0 x5) != 33) = false := bne_eq_false_iff_eq.mpr c33
                clear c33
                by_cases cZ : wrap64 (x5 + 1) = (a0.size : Int)
                · rw [if_pos cZ] at A
                  have cZb0 : (wrap64 (x5 + 1) == (a0.size : Int)) = true := beq_iff_eq.mpr cZ
                  have cZb1 : (wrap64 (x5 + 1) != (a0.size : Int)) = false := bne_eq_false_iff_eq.mpr cZ
                  clear cZ
                  obtain rfl := Option.some.inj A
                  clear A
                  have H := HH.out
                  clear HH
                  simp only [Option.some.injEq, Prod.mk.injEq] at H
                  obtain ⟨rfl, rfl, rfl⟩ := H
                  go_wp2_with (first | (go_at_call 41; (with_reducible refine (token_letter.calls (bt a0 x5) false _ AL.out).mono ?_); rintro e w' ⟨rfl, ⟨nd, rfl⟩⟩) | (go_at_call 43; (with_reducible refine (token_digit.calls (bt a0 x5) false _ AD.out).mono ?_); rintro e w' ⟨rfl, ⟨nd3, rfl⟩⟩))
                  (try simp only [jump_ret, Exit.inBlock, Exit.then, Exit.noGoto_ret])
                  go_ret3
                  exact ⟨_, (by first | rfl | (simp; done) | (simp [*]; done)), Kd.R_nil _ _ _ _ _, by repeat (first | (with_reducible first | exact HB.out | apply below_alloc | apply pw_below_drewN | apply below_drew1 | refine below_set ?_ GW.out) | exact HB.out)⟩
                rw [if_neg cZ] at A
                have cZb0 : (wrap64 (x5 + 1) == (a0.size : Int)) = false := beq_eq_false_iff_ne.mpr cZ
                have cZb1 : (wrap64 (x5 + 1) != (a0.size : Int)) = true := bne_iff_ne.mpr cZ
                have HQ := Aside0.mk (show wrap64 (x5 + 1) < (a0.size : Int) by have := HX.out; rw [HE.out] at cZ ⊢; omega)
                clear cZ
                rw [if_pos HQ.out] at A
                have cEb : decide (wrap64 (x5 + 1) < (a0.size : Int)) = true := decide_eq_true HQ.out
                have p6 : (0 ≤ wrap64 (x5 + 1)) = True := eq_true (by have := HX.out; rw [HE.out]; omega)
                have q6 : (wrap64 (x5 + 1) < (a0.size : Int)) = True := eq_true HQ.out
                have hx7 := bt_at a0 (wrap64 (x5 + 1))
                by_cases c61 : bt a0 (wrap64 (x5 + 1)) = 61
                · rw [if_pos c61] at A
                  have c61b0 : ((bt a0 (wrap64 (x5 + 1))) == 61) = true := beq_iff_eq.mpr c61
                  have c61b1 : ((bt a0 (wrap64 (x5 + 1))) != 61) = false := bne_eq_false_iff_eq.mpr c61
                  have H61 := Aside0.mk c61
                  clear c61
                  unfold token_All.sg at A
                  obtain ⟨t, AT, A⟩ := Option.bind_eq_some_iff.mp A
                  have AT := Aside0.mk AT
                  by_cases ct : t < 0
                  · rw [if_pos ct] at A
                    have ctb : decide (t < 0) = true := decide_eq_true ct
                    clear ct
                    obtain rfl := Option.some.inj A
                    clear A
                    have H := HH.out
                    clear HH
                    simp only [Option.some.injEq, Prod.mk.injEq] at H
                    obtain ⟨rfl, rfl, rfl⟩ := H
                    go_wp2_with (first | (go_at_call 41; (with_reducible refine (token_letter.calls (bt a0 x5) false _ AL.out).mono ?_); rintro e w' ⟨rfl, ⟨nd, rfl⟩⟩) | (go_at_call 43; (with_reducible refine (token_digit.calls (bt a0 x5) false _ AD.out).mono ?_); rintro e w' ⟨rfl, ⟨nd3, rfl⟩⟩) | (go_at_call 46; (with_reducible refine (strings_IndexByte.calls (⟨#[40, 41, 123, 125, 91, 93, 44, 61, 60, 43, 45, 42, 47, 37, 33]⟩ : ByteArray) (bt a0 x5) t _ AT.out).mono ?_); rintro e w' ⟨rfl, ⟨nd5, rfl⟩⟩))
                    (try simp only [jump_ret, Exit.inBlock, Exit.then, Exit.noGoto_ret])
                    go_ret3
                    exact ⟨_, (by first | rfl | (simp; done) | (simp [*]; done)), Kd.R_nil _ _ _ _ _, by repeat (first | (with_reducible first | exact HB.out | apply below_alloc | apply pw_below_drewN | apply below_drew1 | refine below_set ?_ GW.out) | exact HB.out)⟩
                  rw [if_neg ct] at A
                  have ctb : decide (t < 0) = false := decide_eq_false ct
                  clear ct
                  obtain ⟨u, AU, A⟩ := Option.bind_eq_some_iff.mp A
                  have AU := Aside0.mk AU
                  by_cases cu : 0 ≤ u
                  · rw [if_pos cu] at A
                    have cub : decide (0 ≤ u) = true := decide_eq_true cu
                    clear cu
                    rw [if_pos HQ.out, if_pos H61.out] at A
                    obtain rfl := Option.some.inj A
                    clear A
                    obtain ⟨HL, HN⟩ := ite_some HH.out
                    have HN := Aside0.mk HN
                    have HL := Aside0.mk HL
                    clear HH
                    have s1 := eq_true HX.out.1
                    have s1b : decide (0 ≤ x5) = true := decide_eq_true HX.out.1
                    have S2 : x5 ≤ wrap64 (wrap64 (x5 + 1) + 1) ∧ wrap64 (wrap64 (x5 + 1) + 1) ≤ (a0.size : Int) := by have := HX.out; have := hsz.out; have := HQ.out; rw [HE.out] at this; rw [HE.out]; unfold wrap64; omega
                    have s2 := eq_true S2.1
                    have s3 := eq_true S2.2
                    have s2b : decide (x5 ≤ wrap64 (wrap64 (x5 + 1) + 1)) = true := decide_eq_true S2.1
                    have s3b : decide (wrap64 (wrap64 (x5 + 1) + 1) ≤ (a0.size : Int)) = true := decide_eq_true S2.2
                    clear S2
                    go_wp2_with (first | (go_at_call 41; (with_reducible refine (token_letter.calls (bt a0 x5) false _ AL.out).mono ?_); rintro e w' ⟨rfl, ⟨nd, rfl⟩⟩) | (go_at_call 43; (with_reducible refine (token_digit.calls (bt a0 x5) false _ AD.out).mono ?_); rintro e w' ⟨rfl, ⟨nd3, rfl⟩⟩) | (go_at_call 46; (with_reducible refine (strings_IndexByte.calls (⟨#[40, 41, 123, 125, 91, 93, 44, 61, 60, 43, 45, 42, 47, 37, 33]⟩ : ByteArray) (bt a0 x5) t _ AT.out).mono ?_); rintro e w' ⟨rfl, ⟨nd5, rfl⟩⟩) | (go_at_call 46; (with_reducible refine (strings_IndexByte.calls (⟨#[61, 60, 33]⟩ : ByteArray) (bt a0 x5) u _ AU.out).mono ?_); rintro e w' ⟨rfl, ⟨nd5, rfl⟩⟩))
                    go_region
                    all_goals go_wp2
                    all_goals (go_step3; go_step; go_step; refine hB _ _ ?_; (repeat apply Exists.intro); refine ⟨HN, ⟨Nat.le_refl _⟩, ?_, ?_, ?_, GW, HL, rfl⟩)
                    all_goals first | exact ⟨by (with_reducible repeat (first | refine blk_drewN ?_ _ | refine blk_drew ?_ | refine blk_alloc ?_ _)); exact (blk_set (blk_set BK.out 0 (.int .u8 4)) 1 (.string _))⟩ | exact ⟨by (with_reducible repeat (first | apply Kd.R_alloc | apply Kd.R_drewN | apply Kd.R_drew)); exact (Kd.R_far (p := ⟨gb, 1, none⟩) (Kd.R_far (p := ⟨gb, 0, none⟩) HO.out (fun _ h => h) _) (fun _ h => h) _)⟩ | exact ⟨by repeat (first | (with_reducible first | exact HB.out | apply below_alloc | apply pw_below_drewN | apply below_drew1 | refine below_set ?_ GW.out) | exact HB.out)⟩
                  · rw [if_neg cu] at A
                    have cub : decide (0 ≤ u) = false := decide_eq_false cu
                    clear cu
                    obtain rfl := Option.some.inj A
                    clear A
                    obtain ⟨HL, HN⟩ := ite_some HH.out
                    have HN := Aside0.mk HN
                    have HL := Aside0.mk HL
                    clear HH
                    have s1 := eq_true HX.out.1
                    have s1b : decide (0 ≤ x5) = true := decide_eq_true HX.out.1
                    have S2 : x5 ≤ wrap64 (x5 + 1) ∧ wrap64 (x5 + 1) ≤ (a0.size : Int) := by have := HX.out; rw [HE.out]; omega
                    have s2 := eq_true S2.1
                    have s3 := eq_true S2.2
                    have s2b : decide (x5 ≤ wrap64 (x5 + 1)) = true := decide_eq_true S2.1
                    have s3b : decide (wrap64 (x5 + 1) ≤ (a0.size : Int)) = true := decide_eq_true S2.2
                    clear S2
                    go_wp2_with (first | (go_at_call 41; (with_reducible refine (token_letter.calls (bt a0 x5) false _ AL.out).mono ?_); rintro e w' ⟨rfl, ⟨nd, rfl⟩⟩) | (go_at_call 43; (with_reducible refine (token_digit.calls (bt a0 x5) false _ AD.out).mono ?_); rintro e w' ⟨rfl, ⟨nd3, rfl⟩⟩) | (go_at_call 46; (with_reducible refine (strings_IndexByte.calls (⟨#[40, 41, 123, 125, 91, 93, 44, 61, 60, 43, 45, 42, 47, 37, 33]⟩ : ByteArray) (bt a0 x5) t _ AT.out).mono ?_); rintro e w' ⟨rfl, ⟨nd5, rfl⟩⟩) | (go_at_call 46; (with_reducible refine (strings_IndexByte.calls (⟨#[61, 60, 33]⟩ : ByteArray) (bt a0 x5) u _ AU.out).mono ?_); rintro e w' ⟨rfl, ⟨nd5, rfl⟩⟩))
                    go_region
                    all_goals go_wp2
                    all_goals (go_step3; go_step; go_step; refine hB _ _ ?_; (repeat apply Exists.intro); refine ⟨HN, ⟨Nat.le_refl _⟩, ?_, ?_, ?_, GW, HL, rfl⟩)
                    all_goals first | exact ⟨by (with_reducible repeat (first | refine blk_drewN ?_ _ | refine blk_drew ?_ | refine blk_alloc ?_ _)); exact (blk_set (blk_set BK.out 0 (.int .u8 4)) 1 (.string _))⟩ | exact ⟨by (with_reducible repeat (first | apply Kd.R_alloc | apply Kd.R_drewN | apply Kd.R_drew)); exact (Kd.R_far (p := ⟨gb, 1, none⟩) (Kd.R_far (p := ⟨gb, 0, none⟩) HO.out (fun _ h => h) _) (fun _ h => h) _)⟩ | exact ⟨by repeat (first | (with_reducible first | exact HB.out | apply below_alloc | apply pw_below_drewN | apply below_drew1 | refine below_set ?_ GW.out) | exact HB.out)⟩
                · rw [if_neg c61] at A
                  have c61b0 : ((bt a0 (wrap64 (x5 + 1))) == 61) = false := beq_eq_false_iff_ne.mpr c61
                  have c61b1 : ((bt a0 (wrap64 (x5 + 1))) != 61) = true := bne_iff_ne.mpr c61
                  clear c61
                  obtain rfl := Option.some.inj A
                  clear A
                  have H := HH.out
                  clear HH
                  simp only [Option.some.injEq, Prod.mk.injEq] at H
                  obtain ⟨rfl, rfl, rfl⟩ := H
                  go_wp2_with (first | (go_at_call 41; (with_reducible refine (token_letter.calls (bt a0 x5) false _ AL.out).mono ?_); rintro e w' ⟨rfl, ⟨nd, rfl⟩⟩) | (go_at_call 43; (with_reducible refine (token_digit.calls (bt a0 x5) false _ AD.out).mono ?_); rintro e w' ⟨rfl, ⟨nd3, rfl⟩⟩))
                  (try simp only [jump_ret, Exit.inBlock, Exit.then, Exit.noGoto_ret])
                  go_ret3
                  exact ⟨_, (by first | rfl | (simp; done) | (simp [*]; done)), Kd.R_nil _ _ _ _ _, by repeat (first | (with_reducible first | exact HB.out | apply below_alloc | apply pw_below_drewN | apply below_drew1 | refine below_set ?_ GW.out) | exact HB.out)⟩
              rw [if_neg c33] at A
              have c33b0 : ((bt a0 x5) == 33) = false := beq_eq_false_iff_ne.mpr c33
              have c33b1 : ((bt a0 x5) != 33) = true := bne_iff_ne.mpr c33
              clear c33
              unfold token_All.sg at A
              obtain ⟨t, AT, A⟩ := Option.bind_eq_some_iff.mp A
              have AT := Aside0.mk AT
              by_cases ct : t < 0
              · rw [if_pos ct] at A
                have ctb : decide (t < 0) = true := decide_eq_true ct
                clear ct
                obtain rfl := Option.some.inj A
                clear A
                have H := HH.out
                clear HH
                simp only [Option.some.injEq, Prod.mk.injEq] at H
                obtain ⟨rfl, rfl, rfl⟩ := H
                go_wp2_with (first | (go_at_call 41; (with_reducible refine (token_letter.calls (bt a0 x5) false _ AL.out).mono ?_); rintro e w' ⟨rfl, ⟨nd, rfl⟩⟩) | (go_at_call 43; (with_reducible refine (token_digit.calls (bt a0 x5) false _ AD.out).mono ?_); rintro e w' ⟨rfl, ⟨nd3, rfl⟩⟩) | (go_at_call 46; (with_reducible refine (strings_IndexByte.calls (⟨#[40, 41, 123, 125, 91, 93, 44, 61, 60, 43, 45, 42, 47, 37, 33]⟩ : ByteArray) (bt a0 x5) t _ AT.out).mono ?_); rintro e w' ⟨rfl, ⟨nd5, rfl⟩⟩))
                (try simp only [jump_ret, Exit.inBlock, Exit.then, Exit.noGoto_ret])
                go_ret3
                exact ⟨_, (by first | rfl | (simp; done) | (simp [*]; done)), Kd.R_nil _ _ _ _ _, by repeat (first | (with_reducible first | exact HB.out | apply below_alloc | apply pw_below_drewN | apply below_drew1 | refine below_set ?_ GW.out) | exact HB.out)⟩
              rw [if_neg ct] at A
              have ctb : decide (t < 0) = false := decide_eq_false ct
              clear ct
              obtain ⟨u, AU, A⟩ := Option.bind_eq_some_iff.mp A
              have AU := Aside0.mk AU
              by_cases cu : 0 ≤ u
              · rw [if_pos cu] at A
                have cub : decide (0 ≤ u) = true := decide_eq_true cu
                clear cu
                by_cases cE : wrap64 (x5 + 1) < (a0.size : Int)
                · rw [if_pos cE] at A
                  have cEb : decide (wrap64 (x5 + 1) < (a0.size : Int)) = true := decide_eq_true cE
                  have HQ := Aside0.mk cE
                  clear cE
                  have p6 : (0 ≤ wrap64 (x5 + 1)) = True := eq_true (by have := HX.out; rw [HE.out]; omega)
                  have q6 : (wrap64 (x5 + 1) < (a0.size : Int)) = True := eq_true HQ.out
                  have hx7 := bt_at a0 (wrap64 (x5 + 1))
                  by_cases c61 : bt a0 (wrap64 (x5 + 1)) = 61
                  · rw [if_pos c61] at A
                    have c61b0 : ((bt a0 (wrap64 (x5 + 1))) == 61) = true := beq_iff_eq.mpr c61
                    have c61b1 : ((bt a0 (wrap64 (x5 + 1))) != 61) = false := bne_eq_false_iff_eq.mpr c61
                    clear c61
                    obtain rfl := Option.some.inj A
                    clear A
                    obtain ⟨HL, HN⟩ := ite_some HH.out
                    have HN := Aside0.mk HN
                    have HL := Aside0.mk HL
                    clear HH
                    have s1 := eq_true HX.out.1
                    have s1b : decide (0 ≤ x5) = true := decide_eq_true HX.out.1
                    have S2 : x5 ≤ wrap64 (wrap64 (x5 + 1) + 1) ∧ wrap64 (wrap64 (x5 + 1) + 1) ≤ (a0.size : Int) := by have := HX.out; have := hsz.out; have := HQ.out; rw [HE.out] at this; rw [HE.out]; unfold wrap64; omega
                    have s2 := eq_true S2.1
                    have s3 := eq_true S2.2
                    have s2b : decide (x5 ≤ wrap64 (wrap64 (x5 + 1) + 1)) = true := decide_eq_true S2.1
                    have s3b : decide (wrap64 (wrap64 (x5 + 1) + 1) ≤ (a0.size : Int)) = true := decide_eq_true S2.2
                    clear S2
                    go_wp2_with (first | (go_at_call 41; (with_reducible refine (token_letter.calls (bt a0 x5) false _ AL.out).mono ?_); rintro e w' ⟨rfl, ⟨nd, rfl⟩⟩) | (go_at_call 43; (with_reducible refine (token_digit.calls (bt a0 x5) false _ AD.out).mono ?_); rintro e w' ⟨rfl, ⟨nd3, rfl⟩⟩) | (go_at_call 46; (with_reducible refine (strings_IndexByte.calls (⟨#[40, 41, 123, 125, 91, 93, 44, 61, 60, 43, 45, 42, 47, 37, 33]⟩ : ByteArray) (bt a0 x5) t _ AT.out).mono ?_); rintro e w' ⟨rfl, ⟨nd5, rfl⟩⟩) | (go_at_call 46; (with_reducible refine (strings_IndexByte.calls (⟨#[61, 60, 33]⟩ : ByteArray) (bt a0 x5) u _ AU.out).mono ?_); rintro e w' ⟨rfl, ⟨nd5, rfl⟩⟩))
                    go_region
                    all_goals go_wp2
                    all_goals (go_step3; go_step; go_step; refine hB _ _ ?_; (repeat apply Exists.intro); refine ⟨HN, ⟨Nat.le_refl _⟩, ?_, ?_, ?_, GW, HL, rfl⟩)
                    all_goals first | exact ⟨by (with_reducible repeat (first | refine blk_drewN ?_ _ | refine blk_drew ?_ | refine blk_alloc ?_ _)); exact (blk_set (blk_set BK.out 0 (.int .u8 4)) 1 (.string _))⟩ | exact ⟨by (with_reducible repeat (first | apply Kd.R_alloc | apply Kd.R_drewN | apply Kd.R_drew)); exact (Kd.R_far (p := ⟨gb, 1, none⟩) (Kd.R_far (p := ⟨gb, 0, none⟩) HO.out (fun _ h => h) _) (fun _ h => h) _)⟩ | exact ⟨by repeat (first | (with_reducible first | exact HB.out | apply below_alloc | apply pw_below_drewN | apply below_drew1 | refine below_set ?_ GW.out) | exact HB.out)⟩
                  · rw [if_neg c61] at A
                    have c61b0 : ((bt a0 (wrap64 (x5 + 1))) == 61) = false := beq_eq_false_iff_ne.mpr c61
                    have c61b1 : ((bt a0 (wrap64 (x5 + 1))) != 61) = true := bne_iff_ne.mpr c61
                    clear c61
                    obtain rfl := Option.some.inj A
                    clear A
                    obtain ⟨HL, HN⟩ := ite_some HH.out
                    have HN := Aside0.mk HN
                    have HL := Aside0.mk HL
                    clear HH
                    have s1 := eq_true HX.out.1
                    have s1b : decide (0 ≤ x5) = true := decide_eq_true HX.out.1
                    have S2 : x5 ≤ wrap64 (x5 + 1) ∧ wrap64 (x5 + 1) ≤ (a0.size : Int) := by have := HX.out; rw [HE.out]; omega
                    have s2 := eq_true S2.1
                    have s3 := eq_true S2.2
                    have s2b : decide (x5 ≤ wrap64 (x5 + 1)) = true := decide_eq_true S2.1
                    have s3b : decide (wrap64 (x5 + 1) ≤ (a0.size : Int)) = true := decide_eq_true S2.2
                    clear S2
                    go_wp2_with (first | (go_at_call 41; (with_reducible refine (token_letter.calls (bt a0 x5) false _ AL.out).mono ?_); rintro e w' ⟨rfl, ⟨nd, rfl⟩⟩) | (go_at_call 43; (with_reducible refine (token_digit.calls (bt a0 x5) false _ AD.out).mono ?_); rintro e w' ⟨rfl, ⟨nd3, rfl⟩⟩) | (go_at_call 46; (with_reducible refine (strings_IndexByte.calls (⟨#[40, 41, 123, 125, 91, 93, 44, 61, 60, 43, 45, 42, 47, 37, 33]⟩ : ByteArray) (bt a0 x5) t _ AT.out).mono ?_); rintro e w' ⟨rfl, ⟨nd5, rfl⟩⟩) | (go_at_call 46; (with_reducible refine (strings_IndexByte.calls (⟨#[61, 60, 33]⟩ : ByteArray) (bt a0 x5) u _ AU.out).mono ?_); rintro e w' ⟨rfl, ⟨nd5, rfl⟩⟩))
                    go_region
                    all_goals go_wp2
                    all_goals (go_step3; go_step; go_step; refine hB _ _ ?_; (repeat apply Exists.intro); refine ⟨HN, ⟨Nat.le_refl _⟩, ?_, ?_, ?_, GW, HL, rfl⟩)
                    all_goals first | exact ⟨by (with_reducible repeat (first | refine blk_drewN ?_ _ | refine blk_drew ?_ | refine blk_alloc ?_ _)); exact (blk_set (blk_set BK.out 0 (.int .u8 4)) 1 (.string _))⟩ | exact ⟨by (with_reducible repeat (first | apply Kd.R_alloc | apply Kd.R_drewN | apply Kd.R_drew)); exact (Kd.R_far (p := ⟨gb, 1, none⟩) (Kd.R_far (p := ⟨gb, 0, none⟩) HO.out (fun _ h => h) _) (fun _ h => h) _)⟩ | exact ⟨by repeat (first | (with_reducible first | exact HB.out | apply below_alloc | apply pw_below_drewN | apply below_drew1 | refine below_set ?_ GW.out) | exact HB.out)⟩
                · rw [if_neg cE] at A
                  have cEb : decide (wrap64 (x5 + 1) < (a0.size : Int)) = false := decide_eq_false cE
                  clear cE
                  obtain rfl := Option.some.inj A
                  clear A
                  obtain ⟨HL, HN⟩ := ite_some HH.out
                  have HN := Aside0.mk HN
                  have HL := Aside0.mk HL
                  clear HH
                  have s1 := eq_true HX.out.1
                  have s1b : decide (0 ≤ x5) = true := decide_eq_true HX.out.1
                  have S2 : x5 ≤ wrap64 (x5 + 1) ∧ wrap64 (x5 + 1) ≤ (a0.size : Int) := by have := HX.out; rw [HE.out]; omega
                  have s2 := eq_true S2.1
                  have s3 := eq_true S2.2
                  have s2b : decide (x5 ≤ wrap64 (x5 + 1)) = true := decide_eq_true S2.1
                  have s3b : decide (wrap64 (x5 + 1) ≤ (a0.size : Int)) = true := decide_eq_true S2.2
                  clear S2
                  go_wp2_with (first | (go_at_call 41; (with_reducible refine (token_letter.calls (bt a0 x5) false _ AL.out).mono ?_); rintro e w' ⟨rfl, ⟨nd, rfl⟩⟩) | (go_at_call 43; (with_reducible refine (token_digit.calls (bt a0 x5) false _ AD.out).mono ?_); rintro e w' ⟨rfl, ⟨nd3, rfl⟩⟩) | (go_at_call 46; (with_reducible refine (strings_IndexByte.calls (⟨#[40, 41, 123, 125, 91, 93, 44, 61, 60, 43, 45, 42, 47, 37, 33]⟩ : ByteArray) (bt a0 x5) t _ AT.out).mono ?_); rintro e w' ⟨rfl, ⟨nd5, rfl⟩⟩) | (go_at_call 46; (with_reducible refine (strings_IndexByte.calls (⟨#[61, 60, 33]⟩ : ByteArray) (bt a0 x5) u _ AU.out).mono ?_); rintro e w' ⟨rfl, ⟨nd5, rfl⟩⟩))
                  go_region
                  all_goals go_wp2
                  all_goals (go_step3; go_step; go_step; refine hB _ _ ?_; (repeat apply Exists.intro); refine ⟨HN, ⟨Nat.le_refl _⟩, ?_, ?_, ?_, GW, HL, rfl⟩)
                  all_goals first | exact ⟨by (with_reducible repeat (first | refine blk_drewN ?_ _ | refine blk_drew ?_ | refine blk_alloc ?_ _)); exact (blk_set (blk_set BK.out 0 (.int .u8 4)) 1 (.string _))⟩ | exact ⟨by (with_reducible repeat (first | apply Kd.R_alloc | apply Kd.R_drewN | apply Kd.R_drew)); exact (Kd.R_far (p := ⟨gb, 1, none⟩) (Kd.R_far (p := ⟨gb, 0, none⟩) HO.out (fun _ h => h) _) (fun _ h => h) _)⟩ | exact ⟨by repeat (first | (with_reducible first | exact HB.out | apply below_alloc | apply pw_below_drewN | apply below_drew1 | refine below_set ?_ GW.out) | exact HB.out)⟩
              · rw [if_neg cu] at A
                have cub : decide (0 ≤ u) = false := decide_eq_false cu
                clear cu
                obtain rfl := Option.some.inj A
                clear A
                obtain ⟨HL, HN⟩ := ite_some HH.out
                have HN := Aside0.mk HN
                have HL := Aside0.mk HL
                clear HH
                have s1 := eq_true HX.out.1
                have s1b : decide (0 ≤ x5) = true := decide_eq_true HX.out.1
                have S2 : x5 ≤ wrap64 (x5 + 1) ∧ wrap64 (x5 + 1) ≤ (a0.size : Int) := by have := HX.out; rw [HE.out]; omega
                have s2 := eq_true S2.1
                have s3 := eq_true S2.2
                have s2b : decide (x5 ≤ wrap64 (x5 + 1)) = true := decide_eq_true S2.1
                have s3b : decide (wrap64 (x5 + 1) ≤ (a0.size : Int)) = true := decide_eq_true S2.2
                clear S2
                go_wp2_with (first | (go_at_call 41; (with_reducible refine (token_letter.calls (bt a0 x5) false _ AL.out).mono ?_); rintro e w' ⟨rfl, ⟨nd, rfl⟩⟩) | (go_at_call 43; (with_reducible refine (token_digit.calls (bt a0 x5) false _ AD.out).mono ?_); rintro e w' ⟨rfl, ⟨nd3, rfl⟩⟩) | (go_at_call 46; (with_reducible refine (strings_IndexByte.calls (⟨#[40, 41, 123, 125, 91, 93, 44, 61, 60, 43, 45, 42, 47, 37, 33]⟩ : ByteArray) (bt a0 x5) t _ AT.out).mono ?_); rintro e w' ⟨rfl, ⟨nd5, rfl⟩⟩) | (go_at_call 46; (with_reducible refine (strings_IndexByte.calls (⟨#[61, 60, 33]⟩ : ByteArray) (bt a0 x5) u _ AU.out).mono ?_); rintro e w' ⟨rfl, ⟨nd5, rfl⟩⟩))
                go_region
                all_goals go_wp2
                all_goals (go_step3; go_step; go_step; refine hB _ _ ?_; (repeat apply Exists.intro); refine ⟨HN, ⟨Nat.le_refl _⟩, ?_, ?_, ?_, GW, HL, rfl⟩)
                all_goals first | exact ⟨by (with_reducible repeat (first | refine blk_drewN ?_ _ | refine blk_drew ?_ | refine blk_alloc ?_ _)); exact (blk_set (blk_set BK.out 0 (.int .u8 4)) 1 (.string _))⟩ | exact ⟨by (with_reducible repeat (first | apply Kd.R_alloc | apply Kd.R_drewN | apply Kd.R_drew)); exact (Kd.R_far (p := ⟨gb, 1, none⟩) (Kd.R_far (p := ⟨gb, 0, none⟩) HO.out (fun _ h => h) _) (fun _ h => h) _)⟩ | exact ⟨by repeat (first | (with_reducible first | exact HB.out | apply below_alloc | apply pw_below_drewN | apply below_drew1 | refine below_set ?_ GW.out) | exact HB.out)⟩
          · rw [if_neg c5] at H
            exact absurd H (by simp)
        · rw [if_neg c4] at H
          have c4b0 : decide (x5 < (a0.size : Int)) = false := decide_eq_false c4
          clear c4
          simp only [Option.some.injEq, Prod.mk.injEq] at H
          obtain ⟨rfl, rfl, rfl⟩ := H
          go_wp2
          (try rw [Exit.noGoto_ret])
          go_ret3
          exact ⟨_, rfl, by (with_reducible repeat (first | apply Kd.R_alloc | apply Kd.R_drewN | apply Kd.R_drew)); exact HO.out, by repeat (first | (with_reducible first | exact HB.out | apply below_alloc | apply pw_below_drewN | apply below_drew1) | exact HB.out)⟩
end Go.Proofs.YtlbchdalimngjaaDoor.P
namespace Go.Proofs.YtlbchdalimngjaaDoor.P
open Go.RowKit Go.Proofs.YtlbchdalimngjaaDoorW.PrintWords Go.Proofs.YtlbchdalimngjaaDoorW.PrintLast Go.Proofs.YtlbchdalimngjaaDoorW.PrintMore
attribute [local go_sem] max2_int min2_int max_two min_two max_three min_three max_four min_four
set_option linter.unusedVariables false
set_option linter.unusedSimpArgs false
def prompterlaw07_wakes.f (k : Nat)  : Option (Bool) := (token_All.f k (⟨#[108, 101, 116, 32, 120, 61, 49]⟩ : ByteArray)).bind fun bt118 => (if bt118.2.2 = 0 then (if bt118.2.1 = 0 then (if (bt118.1.length : Int) = 4 then (if 2 < (bt118.1.length : Int) then (if ((rd_T40 bt118.1 2).f1).toList = ([61] : List UInt8) then (if 3 < (bt118.1.length : Int) then (if ((rd_T40 bt118.1 3).f2) = 1 then (some (((rd_T40 bt118.1 3).f3) == 6)) else (some false)) else (none)) else (some false)) else (none)) else (some false)) else (some false)) else (some false))
theorem prompterlaw07_wakes.mono : ∀ k, LeO (prompterlaw07_wakes.f k ) (prompterlaw07_wakes.f (k + 1) ) := by
  intro  k
  unfold prompterlaw07_wakes.f
  repeat' first
      | (with_reducible exact token_All.mono _ _)
      | (with_reducible exact LeO.refl _)
      | (with_reducible exact LeO.none _)
      | (with_reducible refine LeO.ite ?_ ?_)
      | (with_reducible refine LeO.bind ?_ (fun _ => ?_))
      | exact token_All.mono _ _
      | exact LeO.none _
      | refine LeO.ite ?_ ?_
      | refine LeO.bind ?_ (fun _ => ?_)
set_option maxHeartbeats 8000000 in
set_option maxRecDepth 100000 in
theorem prompterlaw07_wakes.calls (k : Nat)  (r : Bool) (w : World) (h : prompterlaw07_wakes.f k  = some r) :
    Calls Tryd.prog 10 #[] w fun e w' => e = .returned (.bool r) ∧ Below w.heap.size w w' := by
  have HB := Aside0.mk (Below.refl w.heap.size w)
  have H : ((token_All.f k (⟨#[108, 101, 116, 32, 120, 61, 49]⟩ : ByteArray)).bind fun bt118 => (if bt118.2.2 = 0 then (if bt118.2.1 = 0 then (if (bt118.1.length : Int) = 4 then (if 2 < (bt118.1.length : Int) then (if ((rd_T40 bt118.1 2).f1).toList = ([61] : List UInt8) then (if 3 < (bt118.1.length : Int) then (if ((rd_T40 bt118.1 3).f2) = 1 then (some (((rd_T40 bt118.1 3).f3) == 6)) else (some false)) else (none)) else (some false)) else (none)) else (some false)) else (some false)) else (some false))) = some r := h
  clear h
  replace H := Option.bind_eq_some_iff.mp H
  obtain ⟨⟨t118, t119, t120⟩, A10, H⟩ := H
  replace H : (if t120 = 0 then (if t119 = 0 then (if (t118.length : Int) = 4 then (if 2 < (t118.length : Int) then (if ((rd_T40 t118 2).f1).toList = ([61] : List UInt8) then (if 3 < (t118.length : Int) then (if ((rd_T40 t118 3).f2) = 1 then (some (((rd_T40 t118 3).f3) == 6)) else (some false)) else (none)) else (some false)) else (none)) else (some false)) else (some false)) else (some false)) = some r := H
  have A1 := Aside0.mk A10
  clear A10
  by_cases c2 : t120 = 0
  · rw [if_pos c2] at H
    have c2b0 : (t120 == 0) = true := beq_iff_eq.mpr c2
    have c2b1 : (t120 != 0) = false := bne_eq_false_iff_eq.mpr c2
    clear c2
    by_cases c3 : t119 = 0
    · rw [if_pos c3] at H
      have c3b0 : (t119 == 0) = true := beq_iff_eq.mpr c3
      have c3b1 : (t119 != 0) = false := bne_eq_false_iff_eq.mpr c3
      clear c3
      by_cases c4 : (t118.length : Int) = 4
      · rw [if_pos c4] at H
        have c4b0 : ((t118.length : Int) == 4) = true := beq_iff_eq.mpr c4
        have c4b1 : ((t118.length : Int) != 4) = false := bne_eq_false_iff_eq.mpr c4
        clear c4
        by_cases c5 : 2 < (t118.length : Int)
        · rw [if_pos c5] at H
          have c5b0 : decide (2 < (t118.length : Int)) = true := decide_eq_true c5
          have c5b1 : decide (2 < t118.length) = true := decide_eq_true (by omega)
          clear c5
          by_cases c6 : ((rd_T40 t118 2).f1).toList = ([61] : List UInt8)
          · rw [if_pos c6] at H
            have c6b0 : (((rd_T40 t118 2).f1).toList == ([61] : List UInt8)) = true := beq_iff_eq.mpr c6
            have c6b1 : (((rd_T40 t118 2).f1).toList != ([61] : List UInt8)) = false := bne_eq_false_iff_eq.mpr c6
            clear c6
            by_cases c7 : 3 < (t118.length : Int)
            · rw [if_pos c7] at H
              have c7b0 : decide (3 < (t118.length : Int)) = true := decide_eq_true c7
              have c7b1 : decide (3 < t118.length) = true := decide_eq_true (by omega)
              clear c7
              by_cases c8 : ((rd_T40 t118 3).f2) = 1
              · rw [if_pos c8] at H
                have c8b0 : (((rd_T40 t118 3).f2) == 1) = true := beq_iff_eq.mpr c8
                have c8b1 : (((rd_T40 t118 3).f2) != 1) = false := bne_eq_false_iff_eq.mpr c8
                clear c8
                obtain rfl := Option.some.inj H
                go_enter Tryd.func10, Tryd.ntmps10
                go_wp2_with (first | ((with_reducible refine gate_callee (f := 14) rfl ?_); refine goesL_ (some 5) rfl rfl Tryd.func14 (by kernel_rfl) rfl #[.string (⟨#[108, 101, 116, 32, 120, 61, 49]⟩ : ByteArray)] rfl (by (try simp only [List.map_toArray, List.map_cons, List.map_nil]); first | done | rfl | (simp only [List.length_drop, List.length_take]; rfl)) ?_; (with_reducible refine (token_All.calls k (⟨#[108, 101, 116, 32, 120, 61, 49]⟩ : ByteArray) t118 t119 t120 _ A1.out).mono ?_); rintro e w9 ⟨v121, rfl, ho0, hb⟩; refine ⟨_, rfl, ?_⟩; have n0_ := Aside0.mk (Kd.R_lower ho0 (below_size (by repeat (first | (with_reducible first | exact HB.out | apply below_alloc | apply pw_below_drewN | apply below_drew1) | exact HB.out)))); have n1_ := Aside0.mk (below_step (by repeat (first | (with_reducible first | exact HB.out | apply below_alloc | apply pw_below_drewN | apply below_drew1) | exact HB.out)) hb); clear HB; have HO122 := n0_; have HB := n1_; clear n0_ n1_; (try clear hb); (try clear hb2); (try clear hk); (try clear hi); (try clear ho0); obtain ⟨Ao10, co10, eo10⟩ := Kd.R_slice HO122.out; subst eo10; have p123 : 0 ≤ (2 : Int) := (by omega); have q123 : 2 < (t118.length : Int) := of_decide_eq_true (by first | (with_reducible assumption) | assumption); obtain ⟨ad123, e123, hx123_0, hx123_1, hx123_2, hx123_3⟩ := at_T40 (Kd.R_reads' HO122.out).2.2 2 p123 q123; cases e123; (try simp only [show (2 : Int).toNat = 2 from rfl, Nat.reduceMul, Nat.reduceEqDiff, Go.Addr.add, ↓reduceIte] at hx123_0); (try simp only [show (2 : Int).toNat = 2 from rfl, Nat.reduceMul, Nat.reduceEqDiff, Go.Addr.add, ↓reduceIte] at hx123_1); (try simp only [show (2 : Int).toNat = 2 from rfl, Nat.reduceMul, Nat.reduceEqDiff, Go.Addr.add, ↓reduceIte] at hx123_2); (try simp only [show (2 : Int).toNat = 2 from rfl, Nat.reduceMul, Nat.reduceEqDiff, Go.Addr.add, ↓reduceIte] at hx123_3); have qi123 : (2 < t118.length) = True := eq_true (by omega); (try rw [show ((2 : Int)).toNat = 2 from rfl] at hx123_0); (try rw [show 2 * 4 = 8 from rfl] at hx123_0); (try rw [show ((2 : Int)).toNat = 2 from rfl] at hx123_1); (try rw [show 2 * 4 = 8 from rfl] at hx123_1); (try rw [show ((2 : Int)).toNat = 2 from rfl] at hx123_2); (try rw [show 2 * 4 = 8 from rfl] at hx123_2); (try rw [show ((2 : Int)).toNat = 2 from rfl] at hx123_3); (try rw [show 2 * 4 = 8 from rfl] at hx123_3); replace p123 := eq_true p123; replace q123 := eq_true q123; have p124 : 0 ≤ (3 : Int) := (by omega); have q124 : 3 < (t118.length : Int) := of_decide_eq_true (by first | (with_reducible assumption) | assumption); obtain ⟨ad124, e124, hx124_0, hx124_1, hx124_2, hx124_3⟩ := at_T40 (Kd.R_reads' HO122.out).2.2 3 p124 q124; obtain rfl : ad123 = ad124 := (by injection e124); (try simp only [show (3 : Int).toNat = 3 from rfl, Nat.reduceMul, Nat.reduceEqDiff, Go.Addr.add, ↓reduceIte] at hx124_0); (try simp only [show (3 : Int).toNat = 3 from rfl, Nat.reduceMul, Nat.reduceEqDiff, Go.Addr.add, ↓reduceIte] at hx124_1); (try simp only [show (3 : Int).toNat = 3 from rfl, Nat.reduceMul, Nat.reduceEqDiff, Go.Addr.add, ↓reduceIte] at hx124_2); (try simp only [show (3 : Int).toNat = 3 from rfl, Nat.reduceMul, Nat.reduceEqDiff, Go.Addr.add, ↓reduceIte] at hx124_3); have qi124 : (3 < t118.length) = True := eq_true (by omega); (try rw [show ((3 : Int)).toNat = 3 from rfl] at hx124_0); (try rw [show 3 * 4 = 12 from rfl] at hx124_0); (try rw [show ((3 : Int)).toNat = 3 from rfl] at hx124_1); (try rw [show 3 * 4 = 12 from rfl] at hx124_1); (try rw [show ((3 : Int)).toNat = 3 from rfl] at hx124_2); (try rw [show 3 * 4 = 12 from rfl] at hx124_2); (try rw [show ((3 : Int)).toNat = 3 from rfl] at hx124_3); (try rw [show 3 * 4 = 12 from rfl] at hx124_3); replace p124 := eq_true p124; replace q124 := eq_true q124; have p125 : 0 ≤ (3 : Int) := (by omega); have q125 : 3 < (t118.length : Int) := of_decide_eq_true (by first | (with_reducible assumption) | assumption); obtain ⟨ad125, e125, hx125_0, hx125_1, hx125_2, hx125_3⟩ := at_T40 (Kd.R_reads' HO122.out).2.2 3 p125 q125; obtain rfl : ad123 = ad125 := (by injection e125); (try simp only [show (3 : Int).toNat = 3 from rfl, Nat.reduceMul, Nat.reduceEqDiff, Go.Addr.add, ↓reduceIte] at hx125_0); (try simp only [show (3 : Int).toNat = 3 from rfl, Nat.reduceMul, Nat.reduceEqDiff, Go.Addr.add, ↓reduceIte] at hx125_1); (try simp only [show (3 : Int).toNat = 3 from rfl, Nat.reduceMul, Nat.reduceEqDiff, Go.Addr.add, ↓reduceIte] at hx125_2); (try simp only [show (3 : Int).toNat = 3 from rfl, Nat.reduceMul, Nat.reduceEqDiff, Go.Addr.add, ↓reduceIte] at hx125_3); have qi125 : (3 < t118.length) = True := eq_true (by omega); (try rw [show ((3 : Int)).toNat = 3 from rfl] at hx125_0); (try rw [show 3 * 4 = 12 from rfl] at hx125_0); (try rw [show ((3 : Int)).toNat = 3 from rfl] at hx125_1); (try rw [show 3 * 4 = 12 from rfl] at hx125_1); (try rw [show ((3 : Int)).toNat = 3 from rfl] at hx125_2); (try rw [show 3 * 4 = 12 from rfl] at hx125_2); (try rw [show ((3 : Int)).toNat = 3 from rfl] at hx125_3); (try rw [show 3 * 4 = 12 from rfl] at hx125_3); replace p125 := eq_true p125; replace q125 := eq_true q125))
                go_ret
                exact ⟨by first | rfl | (simp [errW_none, errW_some] <;> rfl) | (simp [*, errW_none, errW_some] <;> rfl), by repeat (first | (with_reducible first | exact HB.out | apply below_alloc | apply pw_below_drewN | apply below_drew1) | exact HB.out)⟩
              · rw [if_neg c8] at H
                have c8b0 : (((rd_T40 t118 3).f2) == 1) = false := beq_eq_false_iff_ne.mpr c8
                have c8b1 : (((rd_T40 t118 3).f2) != 1) = true := bne_iff_ne.mpr c8
                obtain rfl := Option.some.inj H
                go_enter Tryd.func10, Tryd.ntmps10
                go_wp2_with (first | ((with_reducible refine gate_callee (f := 14) rfl ?_); refine goesL_ (some 5) rfl rfl Tryd.func14 (by kernel_rfl) rfl #[.string (⟨#[108, 101, 116, 32, 120, 61, 49]⟩ : ByteArray)] rfl (by (try simp only [List.map_toArray, List.map_cons, List.map_nil]); first | done | rfl | (simp only [List.length_drop, List.length_take]; rfl)) ?_; (with_reducible refine (token_All.calls k (⟨#[108, 101, 116, 32, 120, 61, 49]⟩ : ByteArray) t118 t119 t120 _ A1.out).mono ?_); rintro e w11 ⟨v121, rfl, ho0, hb⟩; refine ⟨_, rfl, ?_⟩; have n0_ := Aside0.mk (Kd.R_lower ho0 (below_size (by repeat (first | (with_reducible first | exact HB.out | apply below_alloc | apply pw_below_drewN | apply below_drew1) | exact HB.out)))); have n1_ := Aside0.mk (below_step (by repeat (first | (with_reducible first | exact HB.out | apply below_alloc | apply pw_below_drewN | apply below_drew1) | exact HB.out)) hb); clear HB; have HO122 := n0_; have HB := n1_; clear n0_ n1_; (try clear hb); (try clear hb2); (try clear hk); (try clear hi); (try clear ho0); obtain ⟨Ao12, co12, eo12⟩ := Kd.R_slice HO122.out; subst eo12; have p123 : 0 ≤ (2 : Int) := (by omega); have q123 : 2 < (t118.length : Int) := of_decide_eq_true (by first | (with_reducible assumption) | assumption); obtain ⟨ad123, e123, hx123_0, hx123_1, hx123_2, hx123_3⟩ := at_T40 (Kd.R_reads' HO122.out).2.2 2 p123 q123; cases e123; (try simp only [show (2 : Int).toNat = 2 from rfl, Nat.reduceMul, Nat.reduceEqDiff, Go.Addr.add, ↓reduceIte] at hx123_0); (try simp only [show (2 : Int).toNat = 2 from rfl, Nat.reduceMul, Nat.reduceEqDiff, Go.Addr.add, ↓reduceIte] at hx123_1); (try simp only [show (2 : Int).toNat = 2 from rfl, Nat.reduceMul, Nat.reduceEqDiff, Go.Addr.add, ↓reduceIte] at hx123_2); (try simp only [show (2 : Int).toNat = 2 from rfl, Nat.reduceMul, Nat.reduceEqDiff, Go.Addr.add, ↓reduceIte] at hx123_3); have qi123 : (2 < t118.length) = True := eq_true (by omega); (try rw [show ((2 : Int)).toNat = 2 from rfl] at hx123_0); (try rw [show 2 * 4 = 8 from rfl] at hx123_0); (try rw [show ((2 : Int)).toNat = 2 from rfl] at hx123_1); (try rw [show 2 * 4 = 8 from rfl] at hx123_1); (try rw [show ((2 : Int)).toNat = 2 from rfl] at hx123_2); (try rw [show 2 * 4 = 8 from rfl] at hx123_2); (try rw [show ((2 : Int)).toNat = 2 from rfl] at hx123_3); (try rw [show 2 * 4 = 8 from rfl] at hx123_3); replace p123 := eq_true p123; replace q123 := eq_true q123; have p124 : 0 ≤ (3 : Int) := (by omega); have q124 : 3 < (t118.length : Int) := of_decide_eq_true (by first | (with_reducible assumption) | assumption); obtain ⟨ad124, e124, hx124_0, hx124_1, hx124_2, hx124_3⟩ := at_T40 (Kd.R_reads' HO122.out).2.2 3 p124 q124; obtain rfl : ad123 = ad124 := (by injection e124); (try simp only [show (3 : Int).toNat = 3 from rfl, Nat.reduceMul, Nat.reduceEqDiff, Go.Addr.add, ↓reduceIte] at hx124_0); (try simp only [show (3 : Int).toNat = 3 from rfl, Nat.reduceMul, Nat.reduceEqDiff, Go.Addr.add, ↓reduceIte] at hx124_1); (try simp only [show (3 : Int).toNat = 3 from rfl, Nat.reduceMul, Nat.reduceEqDiff, Go.Addr.add, ↓reduceIte] at hx124_2); (try simp only [show (3 : Int).toNat = 3 from rfl, Nat.reduceMul, Nat.reduceEqDiff, Go.Addr.add, ↓reduceIte] at hx124_3); have qi124 : (3 < t118.length) = True := eq_true (by omega); (try rw [show ((3 : Int)).toNat = 3 from rfl] at hx124_0); (try rw [show 3 * 4 = 12 from rfl] at hx124_0); (try rw [show ((3 : Int)).toNat = 3 from rfl] at hx124_1); (try rw [show 3 * 4 = 12 from rfl] at hx124_1); (try rw [show ((3 : Int)).toNat = 3 from rfl] at hx124_2); (try rw [show 3 * 4 = 12 from rfl] at hx124_2); (try rw [show ((3 : Int)).toNat = 3 from rfl] at hx124_3); (try rw [show 3 * 4 = 12 from rfl] at hx124_3); replace p124 := eq_true p124; replace q124 := eq_true q124))
                go_ret
                exact ⟨by first | rfl | (simp [errW_none, errW_some] <;> rfl) | (simp [*, errW_none, errW_some] <;> rfl), by repeat (first | (with_reducible first | exact HB.out | apply below_alloc | apply pw_below_drewN | apply below_drew1) | exact HB.out)⟩
            · rw [if_neg c7] at H
              exact absurd H (by simp)
          · rw [if_neg c6] at H
            have c6b0 : (((rd_T40 t118 2).f1).toList == ([61] : List UInt8)) = false := beq_eq_false_iff_ne.mpr c6
            have c6b1 : (((rd_T40 t118 2).f1).toList != ([61] : List UInt8)) = true := bne_iff_ne.mpr c6
            obtain rfl := Option.some.inj H
            go_enter Tryd.func10, Tryd.ntmps10
            go_wp2_with (first | ((with_reducible refine gate_callee (f := 14) rfl ?_); refine goesL_ (some 5) rfl rfl Tryd.func14 (by kernel_rfl) rfl #[.string (⟨#[108, 101, 116, 32, 120, 61, 49]⟩ : ByteArray)] rfl (by (try simp only [List.map_toArray, List.map_cons, List.map_nil]); first | done | rfl | (simp only [List.length_drop, List.length_take]; rfl)) ?_; (with_reducible refine (token_All.calls k (⟨#[108, 101, 116, 32, 120, 61, 49]⟩ : ByteArray) t118 t119 t120 _ A1.out).mono ?_); rintro e w13 ⟨v121, rfl, ho0, hb⟩; refine ⟨_, rfl, ?_⟩; have n0_ := Aside0.mk (Kd.R_lower ho0 (below_size (by repeat (first | (with_reducible first | exact HB.out | apply below_alloc | apply pw_below_drewN | apply below_drew1) | exact HB.out)))); have n1_ := Aside0.mk (below_step (by repeat (first | (with_reducible first | exact HB.out | apply below_alloc | apply pw_below_drewN | apply below_drew1) | exact HB.out)) hb); clear HB; have HO122 := n0_; have HB := n1_; clear n0_ n1_; (try clear hb); (try clear hb2); (try clear hk); (try clear hi); (try clear ho0); obtain ⟨Ao14, co14, eo14⟩ := Kd.R_slice HO122.out; subst eo14; have p123 : 0 ≤ (2 : Int) := (by omega); have q123 : 2 < (t118.length : Int) := of_decide_eq_true (by first | (with_reducible assumption) | assumption); obtain ⟨ad123, e123, hx123_0, hx123_1, hx123_2, hx123_3⟩ := at_T40 (Kd.R_reads' HO122.out).2.2 2 p123 q123; cases e123; (try simp only [show (2 : Int).toNat = 2 from rfl, Nat.reduceMul, Nat.reduceEqDiff, Go.Addr.add, ↓reduceIte] at hx123_0); (try simp only [show (2 : Int).toNat = 2 from rfl, Nat.reduceMul, Nat.reduceEqDiff, Go.Addr.add, ↓reduceIte] at hx123_1); (try simp only [show (2 : Int).toNat = 2 from rfl, Nat.reduceMul, Nat.reduceEqDiff, Go.Addr.add, ↓reduceIte] at hx123_2); (try simp only [show (2 : Int).toNat = 2 from rfl, Nat.reduceMul, Nat.reduceEqDiff, Go.Addr.add, ↓reduceIte] at hx123_3); have qi123 : (2 < t118.length) = True := eq_true (by omega); (try rw [show ((2 : Int)).toNat = 2 from rfl] at hx123_0); (try rw [show 2 * 4 = 8 from rfl] at hx123_0); (try rw [show ((2 : Int)).toNat = 2 from rfl] at hx123_1); (try rw [show 2 * 4 = 8 from rfl] at hx123_1); (try rw [show ((2 : Int)).toNat = 2 from rfl] at hx123_2); (try rw [show 2 * 4 = 8 from rfl] at hx123_2); (try rw [show ((2 : Int)).toNat = 2 from rfl] at hx123_3); (try rw [show 2 * 4 = 8 from rfl] at hx123_3); replace p123 := eq_true p123; replace q123 := eq_true q123))
            go_ret
            exact ⟨by first | rfl | (simp [errW_none, errW_some] <;> rfl) | (simp [*, errW_none, errW_some] <;> rfl), by repeat (first | (with_reducible first | exact HB.out | apply below_alloc | apply pw_below_drewN | apply below_drew1) | exact HB.out)⟩
        · rw [if_neg c5] at H
          exact absurd H (by simp)
      · rw [if_neg c4] at H
        have c4b0 : ((t118.length : Int) == 4) = false := beq_eq_false_iff_ne.mpr c4
        have c4b1 : ((t118.length : Int) != 4) = true := bne_iff_ne.mpr c4
        obtain rfl := Option.some.inj H
        go_enter Tryd.func10, Tryd.ntmps10
        go_wp2_with (first | ((with_reducible refine gate_callee (f := 14) rfl ?_); refine goesL_ (some 5) rfl rfl Tryd.func14 (by kernel_rfl) rfl #[.string (⟨#[108, 101, 116, 32, 120, 61, 49]⟩ : ByteArray)] rfl (by (try simp only [List.map_toArray, List.map_cons, List.map_nil]); first | done | rfl | (simp only [List.length_drop, List.length_take]; rfl)) ?_; (with_reducible refine (token_All.calls k (⟨#[108, 101, 116, 32, 120, 61, 49]⟩ : ByteArray) t118 t119 t120 _ A1.out).mono ?_); rintro e w15 ⟨v121, rfl, ho0, hb⟩; refine ⟨_, rfl, ?_⟩; have n0_ := Aside0.mk (Kd.R_lower ho0 (below_size (by repeat (first | (with_reducible first | exact HB.out | apply below_alloc | apply pw_below_drewN | apply below_drew1) | exact HB.out)))); have n1_ := Aside0.mk (below_step (by repeat (first | (with_reducible first | exact HB.out | apply below_alloc | apply pw_below_drewN | apply below_drew1) | exact HB.out)) hb); clear HB; have HO122 := n0_; have HB := n1_; clear n0_ n1_; (try clear hb); (try clear hb2); (try clear hk); (try clear hi); (try clear ho0); obtain ⟨Ao16, co16, eo16⟩ := Kd.R_slice HO122.out; subst eo16))
        go_ret
        exact ⟨by first | rfl | (simp [errW_none, errW_some] <;> rfl) | (simp [*, errW_none, errW_some] <;> rfl), by repeat (first | (with_reducible first | exact HB.out | apply below_alloc | apply pw_below_drewN | apply below_drew1) | exact HB.out)⟩
    · rw [if_neg c3] at H
      have c3b0 : (t119 == 0) = false := beq_eq_false_iff_ne.mpr c3
      have c3b1 : (t119 != 0) = true := bne_iff_ne.mpr c3
      obtain rfl := Option.some.inj H
      go_enter Tryd.func10, Tryd.ntmps10
      go_wp2_with (first | ((with_reducible refine gate_callee (f := 14) rfl ?_); refine goesL_ (some 5) rfl rfl Tryd.func14 (by kernel_rfl) rfl #[.string (⟨#[108, 101, 116, 32, 120, 61, 49]⟩ : ByteArray)] rfl (by (try simp only [List.map_toArray, List.map_cons, List.map_nil]); first | done | rfl | (simp only [List.length_drop, List.length_take]; rfl)) ?_; (with_reducible refine (token_All.calls k (⟨#[108, 101, 116, 32, 120, 61, 49]⟩ : ByteArray) t118 t119 t120 _ A1.out).mono ?_); rintro e w17 ⟨v121, rfl, ho0, hb⟩; refine ⟨_, rfl, ?_⟩; have n0_ := Aside0.mk (Kd.R_lower ho0 (below_size (by repeat (first | (with_reducible first | exact HB.out | apply below_alloc | apply pw_below_drewN | apply below_drew1) | exact HB.out)))); have n1_ := Aside0.mk (below_step (by repeat (first | (with_reducible first | exact HB.out | apply below_alloc | apply pw_below_drewN | apply below_drew1) | exact HB.out)) hb); clear HB; have HO122 := n0_; have HB := n1_; clear n0_ n1_; (try clear hb); (try clear hb2); (try clear hk); (try clear hi); (try clear ho0)))
      go_ret
      exact ⟨by first | rfl | (simp [errW_none, errW_some] <;> rfl) | (simp [*, errW_none, errW_some] <;> rfl), by repeat (first | (with_reducible first | exact HB.out | apply below_alloc | apply pw_below_drewN | apply below_drew1) | exact HB.out)⟩
  · rw [if_neg c2] at H
    have c2b0 : (t120 == 0) = false := beq_eq_false_iff_ne.mpr c2
    have c2b1 : (t120 != 0) = true := bne_iff_ne.mpr c2
    obtain rfl := Option.some.inj H
    go_enter Tryd.func10, Tryd.ntmps10
    go_wp2_with (first | ((with_reducible refine gate_callee (f := 14) rfl ?_); refine goesL_ (some 5) rfl rfl Tryd.func14 (by kernel_rfl) rfl #[.string (⟨#[108, 101, 116, 32, 120, 61, 49]⟩ : ByteArray)] rfl (by (try simp only [List.map_toArray, List.map_cons, List.map_nil]); first | done | rfl | (simp only [List.length_drop, List.length_take]; rfl)) ?_; (with_reducible refine (token_All.calls k (⟨#[108, 101, 116, 32, 120, 61, 49]⟩ : ByteArray) t118 t119 t120 _ A1.out).mono ?_); rintro e w18 ⟨v121, rfl, ho0, hb⟩; refine ⟨_, rfl, ?_⟩; have n0_ := Aside0.mk (Kd.R_lower ho0 (below_size (by repeat (first | (with_reducible first | exact HB.out | apply below_alloc | apply pw_below_drewN | apply below_drew1) | exact HB.out)))); have n1_ := Aside0.mk (below_step (by repeat (first | (with_reducible first | exact HB.out | apply below_alloc | apply pw_below_drewN | apply below_drew1) | exact HB.out)) hb); clear HB; have HO122 := n0_; have HB := n1_; clear n0_ n1_; (try clear hb); (try clear hb2); (try clear hk); (try clear hi); (try clear ho0)))
    go_ret
    exact ⟨by first | rfl | (simp [errW_none, errW_some] <;> rfl) | (simp [*, errW_none, errW_some] <;> rfl), by repeat (first | (with_reducible first | exact HB.out | apply below_alloc | apply pw_below_drewN | apply below_drew1) | exact HB.out)⟩
end Go.Proofs.YtlbchdalimngjaaDoor.P
namespace Go.Proofs.YtlbchdalimngjaaDoor.P
open Go.RowKit Go.Proofs.YtlbchdalimngjaaDoorW.PrintWords Go.Proofs.YtlbchdalimngjaaDoorW.PrintLast Go.Proofs.YtlbchdalimngjaaDoorW.PrintMore
set_option linter.unusedVariables false
set_option linter.unusedSimpArgs false
set_option maxHeartbeats 8000000 in
set_option maxRecDepth 100000 in
theorem prompterlaw07_bare.calls (k : Nat) (A0 : Option Addr) (c0 : Nat) (l0 : List (S40)) (r : List (S40)) (w : World) (hr0 : Kd.C k40 w A0 l0.length l0) (hc0 : l0.length ≤ c0) (h : prompterlaw07_bare.f k l0 = some r) :
    Calls Tryd.prog 15 #[.slice A0 l0.length c0] w fun e w' => ∃ v0_ : Value, e = .returned (v0_) ∧ Kd.R k40 40 w' w.heap.size (fun _ => True) v0_ r ∧ Below w.heap.size w w' := by
  have hu40 := Tryd.underlying40
  have HR0 := Aside0.mk hr0
  have HC0 := Aside0.mk hc0
  clear hr0 hc0
  have HB := Aside0.mk (Below.refl w.heap.size w)
  have H : (prompterlaw07_bare.l0 k l0 ([] : List (S40)) 0) = some r := h
  clear h
  have H' := Aside0.mk H
  clear H
  go_enter Tryd.func15, Tryd.ntmps15
  go_wp2
  go_loopg [3, 4] k (fun kq v3 v4 w' => ∃ (x3_1 : List (S40)) (x4_1 : Int), v4 = .int .i64 x4_1 ∧ Aside0 (prompterlaw07_bare.l0 kq l0 x3_1 x4_1 = some r) ∧ Aside0 (kq ≤ k) ∧ Aside0 (Kd.R k40 40 w' w.heap.size (fun _ => True) v3 x3_1) ∧ Aside0 (Below w.heap.size w w'))
  case atStart => exact ⟨(([] : List (S40))), (0), (by first | rfl | (simp; done) | (simp [*]; done)), H', ⟨Nat.le_refl _⟩, ⟨by first | exact Kd.R_nil _ _ _ _ _ | exact Kd.N_nil _ _ _ _ _ | exact Kd.V_nil _ _ _ _ _ | exact Kd.Q_nil _ _ _ _ _ | exact Kd.S_nil _ _ _ _ _⟩, ⟨by repeat (first | (with_reducible first | exact HB.out | apply below_alloc | apply pw_below_drewN | apply below_drew1) | exact HB.out)⟩⟩
  case round =>
    clear H'
    try clear c1
    obtain ⟨x3_1, x4_1, rfl, HA, HK1, HO_3, HB⟩ := hrel
    cases gk with
    | zero => exact absurd HA.out (by simp [prompterlaw07_bare.l0])
    | succ k1 =>
      have H := HA.out
      clear HA
      simp only [prompterlaw07_bare.l0] at H
      by_cases c2 : x4_1 < (l0.length : Int)
      · rw [if_pos c2] at H
        have c2b0 : decide (x4_1 < (l0.length : Int)) = true := decide_eq_true c2
        clear c2
        by_cases c3 : 0 ≤ x4_1
        · rw [if_pos c3] at H
          have c3b0 : decide (0 ≤ x4_1) = true := decide_eq_true c3
          clear c3
          by_cases c4 : x3_1.length < 3518437208883
          · rw [if_pos c4] at H
            have LMc4 := Aside0.mk c4
            clear c4
            obtain ⟨y272, hy272⟩ : ∃ y_ : List (S40), y_ = (x3_1 ++ [(⟨(rd_T40 l0 x4_1).f0, (rd_T40 l0 x4_1).f1, (rd_T40 l0 x4_1).f2, 0⟩ : S40)]) := ⟨_, rfl⟩
            replace H : (prompterlaw07_bare.l0 k1 l0 y272 (wrap64 (x4_1 + 1))) = some r := by first | (rw [hy272]; with_reducible exact H) | (have H2_ := (Option.bind_some _ _).symm.trans H; rw [hy272]; with_reducible exact H2_) | (have H2_ := (Option.bind_some _ _).symm.trans H; with_reducible exact H2_) | with_reducible exact H | (rw [hy272]; exact H) | exact H
            have Ny272 := Aside0.mk hy272
            clear hy272
            have H' := Aside0.mk H
            clear H
            have p270 : 0 ≤ (x4_1 : Int) := of_decide_eq_true (by first | (with_reducible assumption) | assumption)
            have q270 : x4_1 < (l0.length : Int) := of_decide_eq_true (by first | (with_reducible assumption) | assumption)
            obtain ⟨ad270, e270, hx270_0, hx270_1, hx270_2, hx270_3⟩ := at_T40 HR0.out x4_1 p270 q270
            cases e270
            replace hx270_0 := (HB.out.cell (World.block_lt_of_cell? w _ hx270_0)).trans hx270_0
            replace hx270_1 := (HB.out.cell (World.block_lt_of_cell? w _ hx270_1)).trans hx270_1
            replace hx270_2 := (HB.out.cell (World.block_lt_of_cell? w _ hx270_2)).trans hx270_2
            replace hx270_3 := (HB.out.cell (World.block_lt_of_cell? w _ hx270_3)).trans hx270_3
            replace p270 := eq_true p270
            replace q270 := eq_true q270
            go_upto_region 6 with (fail)
            obtain ⟨W4, hW4⟩ : ∃ W_ : World, W_ = wr := ⟨_, rfl⟩
            obtain ⟨gb, hbb⟩ : ∃ b_ : Nat, b_ = wr.heap.size := ⟨_, rfl⟩
            obtain ⟨w5, hww⟩ : ∃ W_ : World, W_ = wr.alloc (.cells #[.int .u8 (rd_T40 l0 x4_1).f0, .string (rd_T40 l0 x4_1).f1, .int .i64 (rd_T40 l0 x4_1).f2, .int .i64 (rd_T40 l0 x4_1).f3] 40 (0, 0)) := ⟨_, rfl⟩
            have B5 := Aside0.mk (show w5.heap[gb]? = some (.cells #[.int .u8 (rd_T40 l0 x4_1).f0, .string (rd_T40 l0 x4_1).f1, .int .i64 (rd_T40 l0 x4_1).f2, .int .i64 (rd_T40 l0 x4_1).f3] 40 (0, 0)) by rw [hww, hbb]; exact blk_new _ _)
            have HB5 := Aside0.mk (show Below w.heap.size w w5 by rw [hww]; exact below_alloc HB.out _)
            have GE := Aside0.mk (show w.heap.size ≤ gb by rw [hbb]; exact below_size HB.out)
            have O5 := Aside0.mk (show Kd.R k40 40 w5 w.heap.size (fun k_ => k_ ≠ gb) u3 x3_1 by rw [hww]; exact Kd.R_alloc (Kd.R_mono (Kd.R_elderB HO_3.out gb (by rw [hbb]; exact Nat.le_refl _)) (fun _ hk => hk.2)) _)
            rw [← hww, ← hbb]
            clear hww hbb hW4 HB HO_3 hx270_0 hx270_1 hx270_2 hx270_3
            have hx5_0 : w5.cell? ⟨gb, 0, none⟩ = some (.int .u8 (rd_T40 l0 x4_1).f0) := (blk_cell B5.out 0).trans rfl
            have hx5_1 : w5.cell? ⟨gb, 1, none⟩ = some (.string (rd_T40 l0 x4_1).f1) := (blk_cell B5.out 1).trans rfl
            have hx5_2 : w5.cell? ⟨gb, 2, none⟩ = some (.int .i64 (rd_T40 l0 x4_1).f2) := (blk_cell B5.out 2).trans rfl
            have hx5_3 : w5.cell? ⟨gb, 3, none⟩ = some (.int .i64 (rd_T40 l0 x4_1).f3) := (blk_cell B5.out 3).trans rfl
            have hf5_0 := blk_frozen B5.out 0
            have hf5_1 := blk_frozen B5.out 1
            have hf5_2 := blk_frozen B5.out 2
            have hf5_3 := blk_frozen B5.out 3
            go_upto_region 7 with (fail)
            obtain ⟨w6, hww⟩ : ∃ W_ : World, W_ = w5.setCell ⟨gb, 3, none⟩ (.int .i64 0) := ⟨_, rfl⟩
            have B6 := Aside0.mk (show w6.heap[gb]? = some (.cells #[.int .u8 (rd_T40 l0 x4_1).f0, .string (rd_T40 l0 x4_1).f1, .int .i64 (rd_T40 l0 x4_1).f2, .int .i64 0] 40 (0, 0)) by rw [hww]; exact blk_put (cs := #[.int .u8 (rd_T40 l0 x4_1).f0, .string (rd_T40 l0 x4_1).f1, .int .i64 (rd_T40 l0 x4_1).f2, .int .i64 (rd_T40 l0 x4_1).f3]) B5.out 3 _ rfl)
            have HB6 := Aside0.mk (show Below w.heap.size w w6 by rw [hww]; exact below_set HB5.out GE.out)
            have O6 := Aside0.mk (show Kd.R k40 40 w6 w.heap.size (fun k_ => k_ ≠ gb) u3 x3_1 by rw [hww]; exact Kd.R_far (p := ⟨gb, 3, none⟩) O5.out (fun _ hk => hk) _)
            try rw [← hww]
            clear hww O5 B5 HB5 hx5_0 hx5_1 hx5_2 hx5_3 hf5_0 hf5_1 hf5_2 hf5_3
            have hx6_0 : w6.cell? ⟨gb, 0, none⟩ = some (.int .u8 (rd_T40 l0 x4_1).f0) := (blk_cell B6.out 0).trans rfl
            have hx6_1 : w6.cell? ⟨gb, 1, none⟩ = some (.string (rd_T40 l0 x4_1).f1) := (blk_cell B6.out 1).trans rfl
            have hx6_2 : w6.cell? ⟨gb, 2, none⟩ = some (.int .i64 (rd_T40 l0 x4_1).f2) := (blk_cell B6.out 2).trans rfl
            have hx6_3 : w6.cell? ⟨gb, 3, none⟩ = some (.int .i64 0) := (blk_cell B6.out 3).trans rfl
            go_wp2_with (first | ((with_reducible refine gate_builtin (b := .append) (xs := #[.tmp 17, .tmp 19]) rfl ?_); at_builtin; refine Kd.R_append k40 (w0 := w) w.heap.size rfl (.tmp 17) (.tmp 19) 22 40 (.agg #[(.int .u8 0), (.string ⟨#[]⟩), (.int .i64 0), (.int .i64 0)]) 40 rfl Tryd.underlying22 info40 rfl (by decide) (by omega) u3 x3_1 (⟨(rd_T40 l0 x4_1).f0, (rd_T40 l0 x4_1).f1, (rd_T40 l0 x4_1).f2, 0⟩ : S40) [.int .u8 (rd_T40 l0 x4_1).f0, .string (rd_T40 l0 x4_1).f1, .int .i64 (rd_T40 l0 x4_1).f2, .int .i64 0] (fun k_ => k_ ≠ gb) (fun _ => False) rfl (by first | (go_simp; done) | (go_simp; rfl)) (k40_mkM _ _ _ (⟨(rd_T40 l0 x4_1).f0, (rd_T40 l0 x4_1).f1, (rd_T40 l0 x4_1).f2, 0⟩ : S40)) (fun _ hk => hk.elim) (fun k_ hk => Kd.freshB B6.out k_ hk) O6.out HB6.out (below_size HB6.out) (by have := LMc4.out; omega) ?_; intro v273 w7 ho hb hg hat; rw [← Ny272.out] at ho; have HB := Aside0.mk hb; have HO274 := Aside0.mk ho; clear ho hb hg hat))
            go_roundg k1
            case measure => have := HK1.out; omega
            case rel => exact ⟨(y272), (wrap64 (x4_1 + 1)), (by first | rfl | (simp; done) | (simp [*]; done)), H', ⟨by have := HK1.out; omega⟩, ⟨by (with_reducible repeat (first | apply Kd.R_alloc | apply Kd.R_drewN | apply Kd.R_drew)); exact Kd.R_mono HO274.out (fun _ hk => trivial)⟩, ⟨by repeat (first | (with_reducible first | exact HB.out | apply below_alloc | apply pw_below_drewN | apply below_drew1 | refine below_set ?_ GE.out) | exact HB.out)⟩⟩
          · rw [if_neg c4] at H
            exact absurd H (by simp)
        · rw [if_neg c3] at H
          exact absurd H (by simp)
      · rw [if_neg c2] at H
        have c2b0 : decide (x4_1 < (l0.length : Int)) = false := decide_eq_false c2
        clear c2
        obtain rfl := Option.some.inj H
        go_wp2
        go_ret
        exact ⟨_, by first | rfl | (simp [errW_none, errW_some] <;> rfl) | (simp [*, errW_none, errW_some] <;> rfl), by (with_reducible repeat (first | apply Kd.R_alloc | apply Kd.R_drewN | apply Kd.R_drew)); exact HO_3.out, by repeat (first | (with_reducible first | exact HB.out | apply below_alloc | apply pw_below_drewN | apply below_drew1) | exact HB.out)⟩
end Go.Proofs.YtlbchdalimngjaaDoor.P
namespace Go.Proofs.YtlbchdalimngjaaDoor.P
open Go.RowKit Go.Proofs.YtlbchdalimngjaaDoorW.PrintWords Go.Proofs.YtlbchdalimngjaaDoorW.PrintLast Go.Proofs.YtlbchdalimngjaaDoorW.PrintMore
attribute [local go_sem] max2_int min2_int max_two min_two max_three min_three max_four min_four
set_option linter.unusedVariables false
set_option linter.unusedSimpArgs false
def token_Keyword.f (a0 : ByteArray) : Option (Bool) := if a0.toList = ([102, 108, 111, 119] : List UInt8) then (some true) else (if a0.toList = ([108, 101, 116] : List UInt8) then (some true) else (if a0.toList = ([105, 102] : List UInt8) then (some true) else (if a0.toList = ([101, 108, 115, 101] : List UInt8) then (some true) else (if a0.toList = ([119, 104, 105, 108, 101] : List UInt8) then (some true) else (if a0.toList = ([114, 101, 116, 117, 114, 110] : List UInt8) then (some true) else (if a0.toList = ([102, 97, 105, 108] : List UInt8) then (some true) else (if a0.toList = ([115, 108, 101, 101, 112] : List UInt8) then (some true) else (if a0.toList = ([100, 111] : List UInt8) then (some true) else (if a0.toList = ([110, 111, 110, 101] : List UInt8) then (some true) else (if a0.toList = ([116, 114, 117, 101] : List UInt8) then (some true) else (if a0.toList = ([102, 97, 108, 115, 101] : List UInt8) then (some true) else (if a0.toList = ([111, 114] : List UInt8) then (some true) else (if a0.toList = ([97, 110, 100] : List UInt8) then (some true) else (if a0.toList = ([110, 111, 116] : List UInt8) then (some true) else (if a0.toList = ([108, 101, 110] : List UInt8) then (some true) else (if a0.toList = ([110, 117, 109] : List UInt8) then (some true) else (if a0.toList = ([114, 101] : List UInt8) then (some true) else (if a0.toList = ([105, 109] : List UInt8) then (some true) else (if a0.toList = ([99, 111, 110, 106] : List UInt8) then (some true) else (if a0.toList = ([99, 97, 108, 108] : List UInt8) then (some true) else (if a0.toList = ([99, 104, 105, 108, 100] : List UInt8) then (some true) else (if a0.toList = ([116, 105, 109, 101, 114] : List UInt8) then (some true) else (if a0.toList = ([102, 111, 114, 107] : List UInt8) then (some true) else (if a0.toList = ([97, 119, 97, 105, 116] : List UInt8) then (some true) else (if a0.toList = ([115, 101, 116, 116, 108, 101] : List UInt8) then (some true) else (if a0.toList = ([116, 97, 107, 101] : List UInt8) then (some true) else (if a0.toList = ([118, 101, 114, 115, 105, 111, 110] : List UInt8) then (some true) else (some false))))))))))))))))))))))))))))
def tree_own.f (k : Nat) (a0 : ByteArray) : Option (Bool) := (value_Name.f k a0).bind fun t293 => (if t293 = true then ((token_Keyword.f a0).bind fun t294 => (some (!t294))) else (some false))
theorem tree_own.mono : ∀ a0 k, LeO (tree_own.f k a0) (tree_own.f (k + 1) a0) := by
  intro a0 k
  unfold tree_own.f
  repeat' first
      | (with_reducible exact value_Name.mono _ _)
      | (with_reducible exact LeO.refl _)
      | (with_reducible exact LeO.none _)
      | (with_reducible refine LeO.ite ?_ ?_)
      | (with_reducible refine LeO.bind ?_ (fun _ => ?_))
      | exact value_Name.mono _ _
      | exact LeO.none _
      | refine LeO.ite ?_ ?_
      | refine LeO.bind ?_ (fun _ => ?_)
def tree_params.f (a0 : Int) (a1 : Int) (a2 : Int) : Option (Bool) := if a0 < (wrap64 (a1 - 1)) then (if a2 = 2 then (some true) else (if a0 = (wrap64 (a1 - 1)) then (some (a2 == 3)) else (some false))) else (if a0 = (wrap64 (a1 - 1)) then (some (a2 == 3)) else (some false))
def tree_nothing.f (a0 : Int) (a1 : Int) (a2 : Int) : Option (Bool) := some false
def tree_empty.f (a0 : ByteArray) : Option (Bool) := some (a0.toList == ([] : List UInt8))
def tree_Statement.f (a0 : Int) : Option (Bool) := if a0 ≥ 4 then (some (decide (a0 ≤ 11))) else (some false)
def tree_stmt.f (a0 : Int) (a1 : Int) (a2 : Int) : Option (Bool) := (tree_Statement.f a2).bind fun t295 => (some t295)
end Go.Proofs.YtlbchdalimngjaaDoor.P
namespace Go.Proofs.YtlbchdalimngjaaDoor.P
open Go.RowKit Go.Proofs.YtlbchdalimngjaaDoorW.PrintWords Go.Proofs.YtlbchdalimngjaaDoorW.PrintLast Go.Proofs.YtlbchdalimngjaaDoorW.PrintMore
set_option linter.unusedVariables false
set_option linter.unusedSimpArgs false
abbrev Tok := S40
def IsRd (w0 W : World) (g : Nat) (l : List Tok) (size : Int) (long : Bool) : Prop :=
  ∃ A c, W.heap[g]? = some (.cells #[.slice A l.length c, .int .i64 size, .bool long] 117 (0, 0)) ∧ w0.heap.size ≤ g ∧ l.length ≤ c ∧ Kd.C k40 w0 A l.length l
section
variable {w0 W W1 : World} {g : Nat} {l : List Tok} {size : Int} {long : Bool}
theorem IsRd.below (h : IsRd w0 W g l size long) (hw : Below W.heap.size W W1) : IsRd w0 W1 g l size long := by
  obtain ⟨A, c, hb, h1, h2, h3⟩ := h
  exact ⟨A, c, blk_below hb hw, h1, h2, h3⟩
theorem IsRd.lt (h : IsRd w0 W g l size long) : g < W.heap.size := by obtain ⟨A, c, hb, h1, h2, h3⟩ := h; exact blk_lt hb
end
section
variable {w0 w : World} {g : Nat} {l : List Tok} {size : Int} {long : Bool}
end
end Go.Proofs.YtlbchdalimngjaaDoor.P
namespace Go.Proofs.YtlbchdalimngjaaDoor.P
open Go.RowKit Go.Proofs.YtlbchdalimngjaaDoorW.PrintWords Go.Proofs.YtlbchdalimngjaaDoorW.PrintLast Go.Proofs.YtlbchdalimngjaaDoorW.PrintMore
set_option linter.unusedVariables false
set_option linter.unusedSimpArgs false
abbrev Twg := S47
section
variable {w0 w : World} {g : Nat} {l : List Tok} {size : Int} {long : Bool}
end
end Go.Proofs.YtlbchdalimngjaaDoor.P
namespace Go.Proofs.YtlbchdalimngjaaDoor.P
open Go.RowKit Go.Proofs.YtlbchdalimngjaaDoorW.PrintWords Go.Proofs.YtlbchdalimngjaaDoorW.PrintLast
set_option linter.unusedVariables false
set_option linter.unusedSimpArgs false
inductive Rz (α : Type) where
  | ok (a : α) (l : List Tok) (g : Bool)
  | bad (l : List Tok)
abbrev Res := Rz (List Twg)
end Go.Proofs.YtlbchdalimngjaaDoor.P
namespace Go.Proofs.YtlbchdalimngjaaDoor.P
open Go.RowKit Go.Proofs.YtlbchdalimngjaaDoorW.PrintWords Go.Proofs.YtlbchdalimngjaaDoorW.PrintLast Go.Proofs.YtlbchdalimngjaaDoorW.PrintMore
set_option linter.unusedVariables false
set_option linter.unusedSimpArgs false
def Keeps (w0 w W : World) (g : Nat) (l : List Tok) (size : Int) (long : Bool) : Prop := IsRd w0 W g l size long ∧ Below w0.heap.size w0 W ∧ KeepBut w W g none
section
variable {w0 w W W1 : World} {g : Nat} {l : List Tok} {size : Int} {long : Bool} {v : Value} {t : List Twg}
theorem Keeps.then_ {l' : List Tok} {lg : Bool} (h : Keeps w0 w W g l size long) (k : Keeps w0 W W1 g l' size lg) : Keeps w0 w W1 g l' size lg := ⟨k.1, k.2.1, h.2.2.trans k.2.2 (.inl rfl)⟩
theorem Keeps.below (h : Keeps w0 w W g l size long) (k : Below W.heap.size W W1) : Keeps w0 w W1 g l size long :=
  ⟨h.1.below k, below_step h.2.1 k, h.2.2.trans (KeepBut.of_below k g none) (.inl rfl)⟩
theorem Keeps.drewN (h : Keeps w0 w W g l size long) (n : Nat) : Keeps w0 w (W.drewN n) g l size long := h.below (pw_below_drewN (Below.refl _ _) n)
theorem Keeps.refl (hI : IsRd w0 w g l size long) (hB : Below w0.heap.size w0 w) : Keeps w0 w w g l size long := ⟨hI, hB, KeepBut.refl _ _ _⟩
theorem Keeps.drew (h : Keeps w0 w W g l size long) : Keeps w0 w W.drew g l size long := h.below (below_drew1 (Below.refl _ _))
theorem Keeps.i (h : Keeps w0 w W g l size long) : IsRd w0 W g l size long := h.1
theorem Keeps.b (h : Keeps w0 w W g l size long) : Below w0.heap.size w0 W := h.2.1
theorem Keeps.k (h : Keeps w0 w W g l size long) : KeepBut w W g none := h.2.2
theorem Keeps.alloc (h : Keeps w0 w W g l size long) (o : Obj) : Keeps w0 w (W.alloc o) g l size long := h.below (below_alloc (Below.refl _ _) o)
end
section
variable {P : Program} {ops : Array Oper} {o : Oper} {a : Act} {Q : Exit → Act → World → Prop} {Kc : Act → World → Prop}
variable {rest : List Oper}
end
end Go.Proofs.YtlbchdalimngjaaDoor.P
namespace Go.Proofs.YtlbchdalimngjaaDoor.P
open Go.RowKit Go.Proofs.YtlbchdalimngjaaDoorW.PrintWords Go.Proofs.YtlbchdalimngjaaDoorW.PrintLast
set_option linter.unusedVariables false
set_option linter.unusedSimpArgs false
def Sh (l : List Tok) : Res → Prop
  | .ok t l' _ => l' <:+ l ∧ l'.length < l.length ∧ t.length ≤ 2048
  | .bad l' => l' <:+ l
def ShE (l : List Tok) : Res → Prop
  | .ok t l' _ => l' <:+ l ∧ t.length ≤ 2048
  | .bad l' => l' <:+ l
theorem Sh.mono {l m : List Tok} {r : Res} (h : Sh l r) (hs : l <:+ m) : Sh m r := by
  have := hs.length_le
  cases r with
  | ok t l' g => exact ⟨h.1.trans hs, by have := h.2.1; omega, h.2.2⟩
  | bad l' => exact h.trans hs
theorem ShE.mono {l m : List Tok} {r : Res} (h : ShE l r) (hs : l <:+ m) : ShE m r := by
  cases r with
  | ok t l' g => exact ⟨h.1.trans hs, h.2⟩
  | bad l' => exact h.trans hs
theorem Sh.e {l : List Tok} {r : Res} (h : Sh l r) : ShE l r := by
  cases r with
  | ok t l' g => exact ⟨h.1, h.2.2⟩
  | bad l' => exact h
end Go.Proofs.YtlbchdalimngjaaDoor.P
namespace Go.Proofs.YtlbchdalimngjaaDoor.P
open Go.RowKit Go.Proofs.YtlbchdalimngjaaDoorW.PrintWords Go.Proofs.YtlbchdalimngjaaDoorW.PrintLast Go.Proofs.YtlbchdalimngjaaDoorW.PrintMore
set_option linter.unusedVariables false
set_option linter.unusedSimpArgs false
def wd (s : ByteArray) : Tok := ⟨1, s, 0, 0⟩
def sg (s : ByteArray) : Tok := ⟨4, s, 0, 0⟩
def IsWr (w0 W : World) (g : Nat) (l : List Twg) (out : List Tok) (n : Nat) : Prop :=
  ∃ A c vo, W.heap[g]? = some (.cells #[.slice A l.length c, vo] 75 (0, 0)) ∧ w0.heap.size ≤ g ∧ l.length ≤ c ∧ Kd.C k47 w0 A l.length l ∧ Kd.R k40 40 W w0.heap.size (fun _ => True) vo out ∧ out.length + 16 * l.length + n ≤ 1000000 ∧ Below w0.heap.size w0 W
def Kp (W W' : World) (g : Nat) : Prop := W.heap.size ≤ W'.heap.size ∧ ∀ i o, W.heap[i]? = some o → i ≠ g → (∀ cs f, o ≠ .cells cs 40 f) → W'.heap[i]? = some o
section
variable {w0 w W W1 W2 : World} {g : Nat} {l : List Twg} {out : List Tok} {n m : Nat} {x : Twg}
theorem Kp.refl (W : World) (g : Nat) : Kp W W g := ⟨Nat.le_refl _, fun _ _ h _ _ => h⟩
theorem Kp.trans (h : Kp W W1 g) (k : Kp W1 W2 g) : Kp W W2 g := ⟨Nat.le_trans h.1 k.1, fun i o h1 h2 h3 => k.2 i o (h.2 i o h1 h2 h3) h2 h3⟩
theorem Kp.below (h : Below W.heap.size W W1) (g : Nat) : Kp W W1 g := ⟨h.size, fun i o h1 _ _ => blk_below h1 h⟩
theorem Kp.alloc (h : Kp W W1 g) (o : Obj) : Kp W (W1.alloc o) g := h.trans (Kp.below (below_alloc (Below.refl _ _) _) g)
theorem Kp.set_ (h : Kp W W1 g) (i : Nat) (u : Value) : Kp W (W1.setCell ⟨g, i, none⟩ u) g :=
  ⟨by rw [show (W1.setCell ⟨g, i, none⟩ u).heap.size = W1.heap.size by simp]; exact h.1, fun j o h1 h2 h3 => (Below.heap_setCell W1 ⟨g, i, none⟩ u j h2).trans (h.2 j o h1 h2 h3)⟩
theorem Kp.blk (h : Kp W W1 g) {b : Nat} {cs : Array Value} {t : TypeId} (hb : W.heap[b]? = some (.cells cs t (0, 0))) (hg : b ≠ g) (ht : t ≠ 40) : W1.heap[b]? = some (.cells cs t (0, 0)) :=
  h.2 b _ hb hg (fun cs' f he => by injection he with _ he _; exact ht he)
theorem row_typed {base : Nat} {ok : Nat → Prop} {vo : Value} (h : Kd.R k40 40 W base ok vo out) : ∀ k, vo.ownBlock = some k → ∃ cs, W.heap[k]? = some (.cells cs 40 (0, 0)) := by
  intro k hk
  obtain ⟨_, _, _, q, hq, cells, hc⟩ := (Kd.R_bound h).1 k hk
  have e : q = 40 := by
    rcases List.mem_cons.1 hq with rfl | hq
    · rfl
    · cases hq
  subst e
  exact ⟨cells, hc⟩
theorem Kp.grown {base : Nat} {ok : Nat → Prop} {vo : Value} (h : Kd.R k40 40 W base ok vo out) (hg : W.grownBy W1 vo.ownBlock) (g : Nat) : Kp W W1 g :=
  ⟨hg.size, fun i o h1 h2 h3 => blk_grown h1 hg (fun he => by obtain ⟨cs, hc⟩ := row_typed h i he.symm; rw [hc] at h1; exact h3 _ _ (Option.some.inj h1).symm)⟩
theorem IsWr.lt (h : IsWr w0 W g l out n) : g < W.heap.size := by obtain ⟨A, c, vo, h1, h2, _⟩ := h; exact blk_lt h1
theorem IsWr.b (h : IsWr w0 W g l out n) : Below w0.heap.size w0 W := by obtain ⟨A, c, vo, _, _, _, _, _, _, h1⟩ := h; exact h1
theorem IsWr.len (h : IsWr w0 W g l out n) : out.length + 16 * l.length + n ≤ 1000000 := by obtain ⟨A, c, vo, _, _, _, _, _, h1, _⟩ := h; exact h1
theorem IsWr.below (h : IsWr w0 W g l out n) (hb : Below W.heap.size W W1) : IsWr w0 W1 g l out n := by
  obtain ⟨A, c, vo, h1, h2, h3, h4, h5, h6, h7⟩ := h
  exact ⟨A, c, vo, blk_below h1 hb, h2, h3, h4, Kd.R_below h5 hb, h6, below_step h7 hb⟩
theorem IsWr.put {A : Option Addr} {c : Nat} {vo v1 : Value} {p : Tok} {y : List Tok} (hy : y = out ++ [p]) (hb : W.heap[g]? = some (.cells #[.slice A l.length c, vo] 75 (0, 0))) (hg : w0.heap.size ≤ g) (hc : l.length ≤ c) (hC : Kd.C k47 w0 A l.length l) (hR : Kd.R k40 40 W w0.heap.size (fun _ => True) vo out)
    (hl : out.length + 16 * l.length + n ≤ 1000000) (hn : 1 ≤ n) (h1 : Kd.R k40 40 W1 w0.heap.size (fun _ => True) v1 y) (hB : Below w0.heap.size w0 W1) (hgr : W.grownBy W1 vo.ownBlock) :
    W1.cell? ⟨g, 1, none⟩ = some vo ∧ W1.frozen? ⟨g, 1, none⟩ = false ∧ IsWr w0 (W1.setCell ⟨g, 1, none⟩ v1) g l y (n - 1) ∧ Kp W (W1.setCell ⟨g, 1, none⟩ v1) g := by
  have hk := Kp.grown hR hgr g
  subst hy
  have hb1 : W1.heap[g]? = some (.cells #[.slice A l.length c, vo] 75 (0, 0)) := blk_grown hb hgr (Kd.R_ne hR hb (by decide))
  refine ⟨(blk_cell hb1 1).trans rfl, blk_frozen hb1 1, ⟨A, c, v1, by simpa using blk_set hb1 1 v1, hg, hc, hC, ?_, ?_, below_set hB hg⟩, hk.set_ 1 v1⟩
  · exact Kd.R_mono (Kd.R_far (Kd.R_far1 h1 rfl (Kd.R_ne h1 hb1 (by decide))) (p := ⟨g, 1, none⟩) (fun k h => h.2) v1) (fun _ _ => trivial)
  · rw [List.length_append, List.length_singleton]; omega
end
section
variable {w0 w : World} {g : Nat} {l : List Twg} {out : List Tok} {n : Nat}
end
end Go.Proofs.YtlbchdalimngjaaDoor.P
namespace Go.Proofs.YtlbchdalimngjaaDoor.P
open Go.RowKit Go.Proofs.YtlbchdalimngjaaDoorW.PrintWords Go.Proofs.YtlbchdalimngjaaDoorW.PrintLast Go.Proofs.YtlbchdalimngjaaDoorW.PrintMore
open Go.Instr
attribute [local go_sem] max2_int min2_int max_two min_two max_three min_three max_four min_four
set_option linter.unusedVariables false
set_option linter.unusedSimpArgs false
structure Form where
  tx : Nat
  le : Int
  mo : Int
  pt : Nat
def Form.cells (f : Form) : Array Value := #[.func (.func f.tx) #[] #[], .int .i64 f.le, .int .i64 f.mo, .func (.func f.pt) #[] #[]]
def formBase : List (Int × Form) := [(1, ⟨90, 1, 2048, 91⟩), (2, ⟨90, 0, 0, 92⟩), (3, ⟨93, 0, 2048, 94⟩), (6, ⟨93, 2, 3, 95⟩), (7, ⟨93, 2, 2, 95⟩), (24, ⟨96, 0, 0, 92⟩), (25, ⟨93, 0, 2048, 97⟩), (53, ⟨93, 1, 1, 98⟩), (23, ⟨93, 0, 0, 92⟩)]
def formMore : List (Int × Form) := [(4, ⟨90, 1, 1, 97⟩), (5, ⟨90, 1, 1, 97⟩), (8, ⟨93, 1, 1, 97⟩), (9, ⟨93, 1, 1, 97⟩), (10, ⟨93, 1, 1, 97⟩), (11, ⟨93, 1, 1, 97⟩), (20, ⟨93, 0, 0, 92⟩), (21, ⟨93, 0, 0, 92⟩), (22, ⟨93, 0, 0, 92⟩), (26, ⟨90, 0, 0, 92⟩), (30, ⟨93, 2, 2, 97⟩), (31, ⟨93, 2, 2, 97⟩), (32, ⟨93, 2, 2, 97⟩), (33, ⟨93, 2, 2, 97⟩), (34, ⟨93, 2, 2, 97⟩), (35, ⟨93, 2, 2, 97⟩), (36, ⟨93, 2, 2, 97⟩), (37, ⟨93, 2, 2, 97⟩), (38, ⟨93, 2, 2, 97⟩), (39, ⟨93, 2, 2, 97⟩), (40, ⟨93, 2, 2, 97⟩), (41, ⟨93, 2, 2, 97⟩), (42, ⟨93, 2, 2, 97⟩), (43, ⟨93, 1, 1, 97⟩), (44, ⟨93, 1, 1, 97⟩), (45, ⟨93, 1, 1, 97⟩), (46, ⟨93, 1, 1, 97⟩), (47, ⟨93, 1, 1, 97⟩), (48, ⟨93, 1, 1, 97⟩), (50, ⟨90, 0, 2048, 97⟩), (51, ⟨90, 0, 2048, 97⟩), (52, ⟨93, 1, 1, 97⟩), (54, ⟨93, 1, 1, 97⟩), (55, ⟨93, 1, 1, 97⟩), (56, ⟨90, 0, 0, 92⟩), (57, ⟨93, 0, 0, 92⟩)]
def formTab (n : Int) : List (Int × Form) := formBase ++ formMore.filter (fun p => p.1 < n)
def formEnt : Nat → List (Int × Form) → List MapEntry
  | _, [] => []
  | i, p :: l => ⟨.int .u8 p.1, .agg p.2.cells, i⟩ :: formEnt (i + 1) l
def formMap (n : Int) : Obj := .map (formEnt 0 (formTab n)).toArray (formTab n).length
section
variable {P : Program} {ops : Array Oper} {rest : List Oper} {o : Oper} {a : Act} {Q : Exit → Act → World → Prop} {W : World}
end
end Go.Proofs.YtlbchdalimngjaaDoor.P
namespace Go.Proofs.YtlbchdalimngjaaDoor.P
open Go.RowKit Go.Proofs.YtlbchdalimngjaaDoorW.PrintWords Go.Proofs.YtlbchdalimngjaaDoorW.PrintLast Go.Proofs.YtlbchdalimngjaaDoorW.PrintMore
attribute [local go_sem] max2_int min2_int max_two min_two max_three min_three max_four min_four
set_option linter.unusedVariables false
set_option linter.unusedSimpArgs false
mutual
def tree_Expression.j0 : Nat → Int → Bool → Option (Bool)
  | 0, _, _ => none
  | k + 1, x0, x3 => if x3 = true then (some true) else (if x0 ≥ 30 then (tree_Expression.j1 k x0 (decide (x0 ≤ 48))) else (tree_Expression.j1 k x0 false))
def tree_Expression.j1 : Nat → Int → Bool → Option (Bool)
  | 0, _, _ => none
  | k + 1, x0, x3 => if x3 = true then (some true) else (if x0 ≥ 50 then (if x0 ≤ 57 then (some true) else (some false)) else (some false))
end
def tree_Expression.f (k : Nat) (a0 : Int) : Option (Bool) := if a0 ≥ 20 then (tree_Expression.j0 k a0 (decide (a0 ≤ 26))) else (tree_Expression.j0 k a0 false)
theorem tree_Expression.mono_l : ∀ k, (∀ y0 y1, LeO (tree_Expression.j0 k y0 y1) (tree_Expression.j0 (k + 1) y0 y1)) ∧ (∀ y0 y1, LeO (tree_Expression.j1 k y0 y1) (tree_Expression.j1 (k + 1) y0 y1))
  | 0 => ⟨fun _ _ r h => by simp [tree_Expression.j0] at h, fun _ _ r h => by simp [tree_Expression.j1] at h⟩
  | k + 1 => by
    obtain ⟨ih0, ih1⟩ := tree_Expression.mono_l k
    refine ⟨?_, ?_⟩
    · intro y0 y1
      unfold tree_Expression.j0
      repeat' first
      | (with_reducible exact ih0 _ _)
      | (with_reducible exact ih1 _ _)
      | (with_reducible exact LeO.refl _)
      | (with_reducible exact LeO.none _)
      | (with_reducible refine LeO.ite ?_ ?_)
      | (with_reducible refine LeO.bind ?_ (fun _ => ?_))
      | exact ih0 _ _
      | exact ih1 _ _
      | exact LeO.none _
      | refine LeO.ite ?_ ?_
      | refine LeO.bind ?_ (fun _ => ?_)
    · intro y0 y1
      unfold tree_Expression.j1
      repeat' first
      | (with_reducible exact ih0 _ _)
      | (with_reducible exact ih1 _ _)
      | (with_reducible exact LeO.refl _)
      | (with_reducible exact LeO.none _)
      | (with_reducible refine LeO.ite ?_ ?_)
      | (with_reducible refine LeO.bind ?_ (fun _ => ?_))
      | exact ih0 _ _
      | exact ih1 _ _
      | exact LeO.none _
      | refine LeO.ite ?_ ?_
      | refine LeO.bind ?_ (fun _ => ?_)
theorem tree_Expression.mono : ∀ a0 k, LeO (tree_Expression.f k a0) (tree_Expression.f (k + 1) a0) := by
  intro a0 k
  obtain ⟨ih0, ih1⟩ := tree_Expression.mono_l k
  unfold tree_Expression.f
  repeat' first
      | (with_reducible exact ih0 _ _)
      | (with_reducible exact ih1 _ _)
      | (with_reducible exact LeO.refl _)
      | (with_reducible exact LeO.none _)
      | (with_reducible refine LeO.ite ?_ ?_)
      | (with_reducible refine LeO.bind ?_ (fun _ => ?_))
      | exact ih0 _ _
      | exact ih1 _ _
      | exact LeO.none _
      | refine LeO.ite ?_ ?_
      | refine LeO.bind ?_ (fun _ => ?_)
def tree_headed.f (k : Nat) (a0 : Int) (a1 : Int) (a2 : Int) : Option (Bool) := if a0 = 0 then ((tree_Expression.f k a2).bind fun t296 => (if t296 = true then (some true) else (if a0 > 0 then (some (a2 == 3)) else (some false)))) else (if a0 > 0 then (some (a2 == 3)) else (some false))
theorem tree_headed.mono : ∀ a0 a1 a2 k, LeO (tree_headed.f k a0 a1 a2) (tree_headed.f (k + 1) a0 a1 a2) := by
  intro a0 a1 a2 k
  unfold tree_headed.f
  repeat' first
      | (with_reducible exact tree_Expression.mono _ _)
      | (with_reducible exact LeO.refl _)
      | (with_reducible exact LeO.none _)
      | (with_reducible refine LeO.ite ?_ ?_)
      | (with_reducible refine LeO.bind ?_ (fun _ => ?_))
      | exact tree_Expression.mono _ _
      | exact LeO.none _
      | refine LeO.ite ?_ ?_
      | refine LeO.bind ?_ (fun _ => ?_)
def tree_short.f (a0 : ByteArray) : Option (Bool) := some (decide ((a0.size : Int) ≤ 4095))
def tree_expr.f (k : Nat) (a0 : Int) (a1 : Int) (a2 : Int) : Option (Bool) := (tree_Expression.f k a2).bind fun t297 => (some t297)
theorem tree_expr.mono : ∀ a0 a1 a2 k, LeO (tree_expr.f k a0 a1 a2) (tree_expr.f (k + 1) a0 a1 a2) := by
  intro a0 a1 a2 k
  unfold tree_expr.f
  repeat' first
      | (with_reducible exact tree_Expression.mono _ _)
      | (with_reducible exact LeO.refl _)
      | (with_reducible exact LeO.none _)
      | (with_reducible refine LeO.ite ?_ ?_)
      | (with_reducible refine LeO.bind ?_ (fun _ => ?_))
      | exact tree_Expression.mono _ _
      | exact LeO.none _
      | refine LeO.ite ?_ ?_
      | refine LeO.bind ?_ (fun _ => ?_)
def tree_block.f (a0 : Int) (a1 : Int) (a2 : Int) : Option (Bool) := some (a2 == 3)
end Go.Proofs.YtlbchdalimngjaaDoor.P
namespace Go.Proofs.YtlbchdalimngjaaDoor.P
open Go.RowKit Go.Proofs.YtlbchdalimngjaaDoorW.PrintWords Go.Proofs.YtlbchdalimngjaaDoorW.PrintLast Go.Proofs.YtlbchdalimngjaaDoorW.PrintMore
open Go.Instr
attribute [local go_sem] max2_int min2_int max_two min_two max_three min_three max_four min_four
set_option linter.unusedVariables false
set_option linter.unusedSimpArgs false
def formOf (op : Int) : Option Form := (formTab 58).lookup op
def textOf (k : Nat) (f : Nat) (s : ByteArray) : Option Bool :=
  if f = 90 then tree_own.f k s else if f = 93 then tree_empty.f s else if f = 96 then tree_short.f s else none
def partOf (f : Nat) (i n op : Int) : Option Bool :=
  if f = 91 then tree_params.f i n op else if f = 92 then tree_nothing.f i n op else if f = 94 then tree_stmt.f i n op
  else if f = 95 then tree_headed.f 9 i n op else if f = 97 then tree_expr.f 9 i n op else if f = 98 then tree_block.f i n op else none
def partB (f : Nat) (i n op : Int) : Bool := (partOf f i n op).getD false
def tree_Check.bad (k : Nat) (x : S47) (p : Int → Bool) : Option Bool :=
  match formOf x.f0 with
  | none => some true
  | some f => if p x.f0 = true then ((textOf k f.tx x.f3).bind fun t => if t = true then
      (if x.f1 < f.le then some true else if x.f1 > f.mo then some true else if x.f0 = 23 then some (decide (x.f2 < 0)) else if x.f2 = 0 then some false else some true) else some true) else some true
mutual
def tree_Check.walk (l : List S47) : Nat → Int → Int → (Int → Bool) → Int → Int → Option (Int × Int × Int)
  | 0, _, _, _, _, _ => none
  | k + 1, at_, lv, p, wr, dp =>
    if at_ < (l.length : Int) then (if 0 ≤ at_ then
      ((tree_Check.bad k (rd_T47 l at_) p).bind fun b => if b = true then some (at_, at_, dp) else
        tree_Check.kids l k (rd_T47 l at_) (wrap64 (at_ + 1)) lv 0 wr (if lv > 40 then (if dp < 0 then at_ else dp) else dp)) else none)
    else some (at_, (l.length : Int), dp)
def tree_Check.kids (l : List S47) : Nat → S47 → Int → Int → Int → Int → Int → Option (Int × Int × Int)
  | 0, _, _, _, _, _, _ => none
  | k + 1, x, nx, lv, i, wr, dp =>
    if i < x.f1 then (if wr < 0 then
      ((tree_Check.walk l k nx (wrap64 (lv + 1)) (fun op => partB ((formOf x.f0).getD ⟨0, 0, 0, 0⟩).pt i x.f1 op) wr dp).bind fun q => tree_Check.kids l k x q.1 lv (wrap64 (i + 1)) q.2.1 q.2.2)
      else some (nx, wr, dp)) else some (nx, wr, dp)
end
def tree_Check.f (k : Nat) (l0 : List S47) : Option (Int × Int) :=
  if (l0.length : Int) > 2048 then some (0, 2) else
  (tree_Check.walk l0 k 0 1 (fun _ => true) (-1) (-1)).bind fun q =>
    if 0 ≤ q.2.1 then some (q.2.1, 3) else if q.1 < (l0.length : Int) then some (q.1, 3) else if 0 ≤ q.2.2 then some (q.2.2, 2) else some (0, 0)
theorem textOf_mono (k f : Nat) (s : ByteArray) : LeO (textOf k f s) (textOf (k + 1) f s) := by
  unfold textOf
  repeat' first | exact tree_own.mono _ _ | exact LeO.refl _ | refine LeO.ite ?_ ?_
theorem tree_Check.bad_mono (k : Nat) (x : S47) (p : Int → Bool) : LeO (tree_Check.bad k x p) (tree_Check.bad (k + 1) x p) := by
  unfold tree_Check.bad
  cases formOf x.f0 with
  | none => exact LeO.refl _
  | some f => exact LeO.ite (LeO.bind (textOf_mono _ _ _) (fun _ => LeO.refl _)) (LeO.refl _)
theorem tree_Check.both_mono (l : List S47) : ∀ k, (∀ a b p c d, LeO (tree_Check.walk l k a b p c d) (tree_Check.walk l (k + 1) a b p c d)) ∧ (∀ x a b c d e, LeO (tree_Check.kids l k x a b c d e) (tree_Check.kids l (k + 1) x a b c d e))
  | 0 => ⟨fun _ _ _ _ _ r h => by simp [tree_Check.walk] at h, fun _ _ _ _ _ _ r h => by simp [tree_Check.kids] at h⟩
  | k + 1 => by
    obtain ⟨ih1, ih2⟩ := tree_Check.both_mono l k
    refine ⟨fun a b p c d => ?_, fun x a b c d e => ?_⟩
    · rw [tree_Check.walk, tree_Check.walk]
      exact LeO.ite (LeO.ite (LeO.bind (tree_Check.bad_mono _ _ _) (fun _ => LeO.ite (LeO.refl _) (ih2 _ _ _ _ _ _))) (LeO.refl _)) (LeO.refl _)
    · rw [tree_Check.kids, tree_Check.kids]
      exact LeO.ite (LeO.ite (LeO.bind (ih1 _ _ _ _ _) (fun _ => ih2 _ _ _ _ _ _)) (LeO.refl _)) (LeO.refl _)
theorem tree_Check.mono : ∀ l0 k, LeO (tree_Check.f k l0) (tree_Check.f (k + 1) l0) := by
  intro l0 k
  unfold tree_Check.f
  exact LeO.ite (LeO.refl _) (LeO.bind ((tree_Check.both_mono l0 k).1 _ _ _ _ _) (fun _ => LeO.refl _))
structure ChkEnv (w0 w : World) (l : List S47) (A : Option Addr) (c bt b bm bw bd bk : Nat) (wr dp : Int) : Prop where
  below : Below w0.heap.size w0 w
  row : Kd.C k47 w0 A l.length l
  cap : l.length ≤ c
  hbt : w.heap[bt]? = some (.cells #[.slice A l.length c] 33 (0, 0))
  hb : w.heap[b]? = some (formMap 58)
  hbm : w.heap[bm]? = some (.cells #[.map (some b)] 82 (0, 0))
  hbw : w.heap[bw]? = some (.cells #[.int .i64 wr] 3 (0, 0))
  hbd : w.heap[bd]? = some (.cells #[.int .i64 dp] 3 (0, 0))
  hbk : w.heap[bk]? = some (.cells #[.func (.func 56) #[] #[.pointer (some ⟨bt, 0, none⟩), .pointer (some ⟨bw, 0, none⟩), .pointer (some ⟨bm, 0, none⟩), .pointer (some ⟨bd, 0, none⟩), .pointer (some ⟨bk, 0, none⟩)]] 84 (0, 0))
  ord : w0.heap.size ≤ bt ∧ bt < b ∧ b < bm ∧ bm < bw ∧ bw < bd ∧ bd < bk
section
variable {w0 w W : World} {l : List S47} {A : Option Addr} {c bt b bm bw bd bk : Nat} {wr dp : Int}
theorem ChkEnv.lt (h : ChkEnv w0 w l A c bt b bm bw bd bk wr dp) : bk < w.heap.size := blk_lt h.hbk
end
theorem mk_run (P : Program) (fn : Fn) (first cap : Array Value) (w : World) : (Instr.makeFunc fn first cap).run P w = .ok (.func fn first cap) w := rfl
theorem mk_events (P : Program) (fn : Fn) (first cap : Array Value) (w : World) (es : Array Event) : (Instr.makeFunc fn first cap).events P w es = es := rfl
end Go.Proofs.YtlbchdalimngjaaDoor.P
namespace Go.Proofs.YtlbchdalimngjaaDoor.P
open Go.RowKit Go.Proofs.YtlbchdalimngjaaDoorW.PrintWords Go.Proofs.YtlbchdalimngjaaDoorW.PrintLast
set_option linter.unusedVariables false
set_option linter.unusedSimpArgs false
abbrev IsBl (B b : Nat) (bs : List Value) (w : World) : Prop := Lib.IsBuilder 56 5 B b bs w
theorem bl_info : (Tryd.prog.info? 56).map (·.size) = some 2 := by kernel_rfl
theorem bl_lies : liesAt Tryd.prog Tryd.prog.depth 56 (2 / Tryd.prog.cellsOf 56) 0 56 1 = true := by kernel_rfl
theorem u8_info : (Tryd.prog.info? 5).map (fun i => (i.zero, i.size, i.bytes)) = some (some (.int .u8 0), 1, 1) := by kernel_rfl
def KpU (W W' : World) (b : Nat) : Prop := W.heap.size ≤ W'.heap.size ∧ ∀ i o, W.heap[i]? = some o → i ≠ b → (∀ cs f, o ≠ .cells cs 5 f) → W'.heap[i]? = some o
section
variable {B b : Nat} {bs : List Value} {w w1 w2 : World}
theorem KpU.refl (w : World) (b : Nat) : KpU w w b := ⟨Nat.le_refl _, fun _ _ h _ _ => h⟩
theorem KpU.trans (h : KpU w w1 b) (k : KpU w1 w2 b) : KpU w w2 b := ⟨Nat.le_trans h.1 k.1, fun i o h1 h2 h3 => k.2 i o (h.2 i o h1 h2 h3) h2 h3⟩
theorem KpU.below (h : Below w.heap.size w w1) (b : Nat) : KpU w w1 b := ⟨h.size, fun i o h1 _ _ => blk_below h1 h⟩
theorem KpU.set_ (h : KpU w w1 b) (i : Nat) (u : Value) : KpU w (w1.setCell ⟨b, i, none⟩ u) b :=
  ⟨by rw [show (w1.setCell ⟨b, i, none⟩ u).heap.size = w1.heap.size by simp]; exact h.1, fun j o h1 h2 h3 => (Below.heap_setCell w1 ⟨b, i, none⟩ u j h2).trans (h.2 j o h1 h2 h3)⟩
theorem KpU.grown {v : Value} {n : Nat} {xs : List Value} (ho : w.ownsRow B 5 1 v n xs) (hg : w.grownBy w1 v.ownBlock) (b : Nat) : KpU w w1 b :=
  ⟨hg.size, fun i o h1 h2 h3 => blk_grown h1 hg (fun he => by obtain ⟨cs, hc⟩ := own_typed ho i he.symm; rw [hc] at h1; exact h3 _ _ (Option.some.inj h1).symm)⟩
theorem KpU.blk (h : KpU w w1 b) {g : Nat} {cs : Array Value} {t : TypeId} (hb : w.heap[g]? = some (.cells cs t (0, 0))) (hg : g ≠ b) (ht : t ≠ 5) : w1.heap[g]? = some (.cells cs t (0, 0)) :=
  h.2 g _ hb hg (fun cs' f he => by injection he with _ he _; exact ht he)
set_option maxHeartbeats 1000000 in
set_option maxRecDepth 100000 in
theorem bl_check (h : IsBl B b bs w) : Calls Tryd.prog 59 #[.pointer (some ⟨b, 0, none⟩)] w fun e w' => e = .returned (.tuple #[]) ∧ Lib.BuilderAt 56 5 B b (.pointer (some ⟨b, 0, none⟩)) bs w' ∧ Below B w w' ∧ KpU w w' b := by
  obtain ⟨j, hj, hjs⟩ := Option.map_eq_some_iff.1 bl_info
  rcases h with h | h
  · have h0 := h.cell0
    have hz := h.frozen0
    have r1 := Lib.run_to_unsafe (P := Tryd.prog) w ⟨b, 0, none⟩ Tryd.underlying53 Tryd.underlying125 hj (by rw [hjs]; decide) h.shape (Nat.zero_lt_succ 1)
    have r2 : (callFunc 99 #[.pointer (some ⟨b, 0, none⟩)]).run Tryd.prog w = .ok (.value (.pointer (some ⟨b, 0, none⟩))) w := by
      rw [run_callFunc_extern Tryd.func99 (by kernel_rfl) (by kernel_rfl) (by kernel_rfl) (e := Extern.AbiNoEscape.same) (by kernel_rfl), Lib.run_noEscape]
      rfl
    have r3 := Lib.run_from_unsafe (P := Tryd.prog) w ⟨b, 0, none⟩ Tryd.underlying125 Tryd.underlying53 hj h.shape bl_lies
    have HH := Aside0.mk h
    clear hj h
    go_enter Tryd.func59, Tryd.ntmps59
    go_wp2
    refine bodyPost_end (results_none rfl _ _ _) rfl ?_
    exact ⟨rfl, HH.out.used _, (Below.refl B w).setCell (p := ⟨b, 0, none⟩) HH.out.1 _, (KpU.refl w b).set_ 0 _⟩
  · have h0 := h.cell0
    have r1 := Lib.run_neq_ptr_same (P := Tryd.prog) w ⟨b, 0, none⟩ Tryd.underlying53 hj
    have HH := Aside0.mk h
    clear hj h
    go_enter Tryd.func59, Tryd.ntmps59
    go_wp2
    refine bodyPost_end (results_none rfl _ _ _) rfl ?_
    exact ⟨rfl, HH.out, Below.refl B _, KpU.refl w b⟩
set_option maxHeartbeats 2000000 in
set_option maxRecDepth 100000 in
theorem bl_byte (c : Int) (h : IsBl B b bs w) (hlen : bs.length + 1 ≤ 140737488355328) (hBw : B ≤ w.heap.size) :
    Calls Tryd.prog 33 #[.pointer (some ⟨b, 0, none⟩), .int .u8 c] w fun e w' => e = .returned .nilIface ∧ IsBl B b (bs ++ [.int .u8 c]) w' ∧ Below B w w' ∧ KpU w w' b := by
  obtain ⟨i0, hi, hz0, hz1, hz2⟩ := info_parts u8_info
  have HC := Aside0.mk (bl_check h)
  have HL := Aside0.mk hlen
  have HBW := Aside0.mk hBw
  clear h hlen hBw
  go_enter Tryd.func33, Tryd.ntmps33
  go_upto_region 2 with (go_at_call 59; (with_reducible refine HC.out.mono ?_); rintro e w1 ⟨rfl, h1, hb1, hk1⟩; have H1 := Aside0.mk h1; have B1 := Aside0.mk hb1; have U1 := Aside0.mk hk1; clear h1 hb1 hk1)
  obtain ⟨hB, v, hbk, hown, hne⟩ := H1.out
  have c1 : w1.cell? ⟨b, 1, none⟩ = some v := (blk_cell hbk 1).trans rfl
  have HK := Aside0.mk hbk
  have HO := Aside0.mk hown
  have HN := Aside0.mk hne
  have HB := Aside0.mk hB
  clear hB hbk hown hne
  go_wp2_with ((with_reducible refine gate_builtin (b := .append) (xs := #[.tmp 11, .tmp 13]) rfl ?_); at_builtin; refine wpList_append_own _ rfl _ _ 54 rfl B 5 i0 (.int .u8 0) 1 1 Tryd.underlying54 hi hz0 hz1 hz2 rfl (by decide) _ _ _ rfl (HO.out.alloc _) ⟨w1.heap.size, 0, none⟩ 1 1 [.int .u8 c] rfl rfl ?c1 ?c2 ?c3 ?c4 ?c5 ?_; (case c1 => (intro j u hj; match j, hj with | 0, hj => simp at hj; subst hj; simp [Addr.add])); (case c2 => (intro u hu; simp at hu; subst hu; rfl)); (case c3 => have := HL.out; unfold maxLen; omega); (case c4 => have := HL.out; omega); (case c5 => have := B1.out.size; have := HBW.out; simp; omega); intro v' w2 hown' hgrow _; have HG := Aside0.mk hgrow; have HO2 := Aside0.mk hown'; obtain ⟨g, cap, hv'⟩ : ∃ g cap, v' = .slice (some ⟨g, 0, none⟩) (bs.length + 1) cap := (by rcases hown'.2 with ⟨_, h0⟩ | ⟨g, cap, cur, hv, _⟩; (omega); (exact ⟨g, cap, hv⟩)); subst hv'; have hb2 := blk_grown (blk_alloc HK.out (.cells #[.int .u8 c] 5 (0, 0))) hgrow (fun e => HN.out e.symm); have HB2 := Aside0.mk hb2; have d1 : w2.cell? ⟨b, 1, none⟩ = some v := (blk_cell hb2 1).trans rfl; have f1 : w2.frozen? ⟨b, 1, none⟩ = false := blk_frozen hb2 1; clear hown' hgrow hb2)
  go_ret
  refine ⟨rfl, .inr (Lib.BuilderAt.put (T := 56) (e := 5) HB.out HB2.out (bs' := bs ++ [.int .u8 c]) (by simpa using HO2.out) (by decide)), ?_, (U1.out.trans ((KpU.below (below_alloc (Below.refl _ _) _) b).trans (KpU.grown (HO.out.alloc _) HG.out b))).set_ 1 _⟩
  exact ((B1.out.alloc (by have := B1.out.size; have := HBW.out; omega) _).grown HG.out (by have := B1.out.size; have := HBW.out; simp; omega) (fun k hk => (HO.out.lt k hk).1)).setCell (p := ⟨b, 1, none⟩) HB.out _
set_option maxHeartbeats 2000000 in
set_option maxRecDepth 100000 in
theorem bl_str (s : ByteArray) (h : IsBl B b bs w) (hlen : bs.length + s.size ≤ 140737488355328) (hBw : B ≤ w.heap.size) :
    Calls Tryd.prog 34 #[.pointer (some ⟨b, 0, none⟩), .string s] w fun e w' => e = .returned (.tuple #[.int .i64 s.size, .nilIface]) ∧ IsBl B b (bs ++ Lib.strCells s) w' ∧ Below B w w' ∧ KpU w w' b := by
  obtain ⟨i0, hi, hz0, hz1, hz2⟩ := info_parts u8_info
  have HC := Aside0.mk (bl_check h)
  have HL := Aside0.mk hlen
  have HBW := Aside0.mk hBw
  clear h hlen hBw
  go_enter Tryd.func34, Tryd.ntmps34
  go_upto_region 2 with (go_at_call 59; (with_reducible refine HC.out.mono ?_); rintro e w1 ⟨rfl, h1, hb1, hk1⟩; have H1 := Aside0.mk h1; have B1 := Aside0.mk hb1; have U1 := Aside0.mk hk1; clear h1 hb1 hk1)
  obtain ⟨hB, v, hbk, hown, hne⟩ := H1.out
  have c1 : w1.cell? ⟨b, 1, none⟩ = some v := (blk_cell hbk 1).trans rfl
  have HK := Aside0.mk hbk
  have HO := Aside0.mk hown
  have HN := Aside0.mk hne
  have HB := Aside0.mk hB
  clear hB hbk hown hne
  go_wp2_with ((with_reducible refine gate_builtin (b := .append) (xs := #[.tmp 12, .tmp 13]) rfl ?_); at_builtin; refine Lib.wpList_append_own_string _ rfl _ _ 54 9 rfl B 5 i0 Tryd.underlying54 Tryd.underlying9 hi hz0 hz1 hz2 _ _ _ rfl HO.out s rfl ?c3 ?c4 ?c5 ?_; (case c3 => have := HL.out; unfold maxLen; omega); (case c4 => have := HL.out; omega); (case c5 => have := B1.out.size; have := HBW.out; omega); intro v' w2 hown' hgrow _; have HG := Aside0.mk hgrow; have HO2 := Aside0.mk hown'; obtain ⟨ao, n', cap, hv'⟩ : ∃ ao n' cap, v' = .slice ao n' cap := (by rcases hown'.2 with ⟨hv, _⟩ | ⟨g, cap, cur, hv, _⟩ <;> exact ⟨_, _, _, hv⟩); subst hv'; have hb2 := blk_grown HK.out hgrow (fun e => HN.out e.symm); have HB2 := Aside0.mk hb2; have d1 : w2.cell? ⟨b, 1, none⟩ = some v := (blk_cell hb2 1).trans rfl; have f1 : w2.frozen? ⟨b, 1, none⟩ = false := blk_frozen hb2 1; clear hown' hgrow hb2)
  go_ret2
  refine ⟨rfl, .inr (Lib.BuilderAt.put (T := 56) (e := 5) HB.out HB2.out (bs' := bs ++ Lib.strCells s) (by simpa [Lib.strCells_length] using HO2.out) (by decide)), ?_, (U1.out.trans (KpU.grown HO.out HG.out b)).set_ 1 _⟩
  exact (B1.out.grown HG.out (by have := B1.out.size; have := HBW.out; omega) (fun k hk => (HO.out.lt k hk).1)).setCell (p := ⟨b, 1, none⟩) HB.out _
end
end Go.Proofs.YtlbchdalimngjaaDoor.P
namespace Go.Proofs.YtlbchdalimngjaaDoor.P
open Go.Shelf
def Tryd.lays170_ren : Go.Shelf.Ren := ⟨fun | 170 => 32 | n => n, fun | 70 => 53 | 3 => 3 | 0 => 0 | 72 => 56 | 37 => 54 | 5 => 5 | n => n, fun | n => n⟩
theorem Tryd.lays170 : Go.Proofs.Lays.n170 Tryd.prog Tryd.lays170_ren := {
  mixed := by kernel_rfl
  f170 := Tryd.func32.trans (congrArg some (by kernel_rfl))
  t0 := Tryd.underlying0
  a0 := Tryd.isAgg0
  z0 := Tryd.sizeOf0
  v0 := Tryd.zeroValue0
  t3 := Tryd.underlying3
  a3 := Tryd.isAgg3
  z3 := Tryd.sizeOf3
  v3 := Tryd.zeroValue3
  t37 := Tryd.underlying54
  a37 := Tryd.isAgg54
  z37 := Tryd.sizeOf54
  v37 := Tryd.zeroValue54
  t70 := Tryd.underlying53
  a70 := Tryd.isAgg53
  z70 := Tryd.sizeOf53
  v70 := Tryd.zeroValue53
  t72 := Tryd.underlying56
  a72 := Tryd.isAgg56
  z72 := Tryd.sizeOf56
  v72 := Tryd.zeroValue56 }
open Go.RowKit in
theorem Tryd.Builder_Len (B b : Nat) (bs : List Value) (w : World) (h : Lib.IsBuilder 56 5 B b bs w) :
    Calls Tryd.prog 32 #[.pointer (some ⟨b, 0, none⟩)] w fun e w' => e = .returned (.int .i64 bs.length) ∧ w' = w := Any.Builder_Len Tryd.lays170 B b bs w h
def Tryd.lays169_ren : Go.Shelf.Ren := ⟨fun | 169 => 37 | n => n, fun | 70 => 53 | 9 => 9 | 0 => 0 | 72 => 56 | 37 => 54 | 127 => 90 | 3 => 3 | 5 => 5 | n => n, fun | n => n⟩
theorem Tryd.lays169 : Go.Proofs.Lays.n169 Tryd.prog Tryd.lays169_ren := {
  mixed := by kernel_rfl
  f169 := Tryd.func37.trans (congrArg some (by kernel_rfl))
  t0 := Tryd.underlying0
  a0 := Tryd.isAgg0
  z0 := Tryd.sizeOf0
  v0 := Tryd.zeroValue0
  t3 := Tryd.underlying3
  a3 := Tryd.isAgg3
  z3 := Tryd.sizeOf3
  v3 := Tryd.zeroValue3
  t9 := Tryd.underlying9
  a9 := Tryd.isAgg9
  z9 := Tryd.sizeOf9
  v9 := Tryd.zeroValue9
  t37 := Tryd.underlying54
  a37 := Tryd.isAgg54
  z37 := Tryd.sizeOf54
  v37 := Tryd.zeroValue54
  t70 := Tryd.underlying53
  a70 := Tryd.isAgg53
  z70 := Tryd.sizeOf53
  v70 := Tryd.zeroValue53
  t72 := Tryd.underlying56
  a72 := Tryd.isAgg56
  z72 := Tryd.sizeOf56
  v72 := Tryd.zeroValue56
  t127 := Tryd.underlying90
  a127 := Tryd.isAgg90
  z127 := Tryd.sizeOf90
  v127 := Tryd.zeroValue90 }
theorem Tryd.Builder_Extra_169 : Builder.Extra Tryd.prog Tryd.lays169_ren := {
  sizeBuilder := by kernel_rfl
  liesBuilder := by kernel_rfl
  t5 := Tryd.underlying5
  a5 := Tryd.isAgg5
  z5 := Tryd.sizeOf5
  v5 := Tryd.zeroValue5
  infoByte := by kernel_rfl
  cellsByte := by kernel_rfl
  sizeByte := by kernel_rfl
  neB5 := by decide }
open Go.RowKit in
theorem Tryd.Builder_String_any (B b : Nat) (l : List UInt8) (w : World) (h : Lib.IsBuilder 56 5 B b (Lib.byteCells l) w) (hBw : B ≤ w.heap.size) :
    Calls Tryd.prog 37 #[.pointer (some ⟨b, 0, none⟩)] w fun e w' => e = .returned (.string ⟨l.toArray⟩) ∧ Below B w w' := Any.Builder_String_any Tryd.lays169 Tryd.Builder_Extra_169 B b l w h hBw
def Tryd.lays137_ren : Go.Shelf.Ren := ⟨fun | 137 => 46 | 217 => 65 | 266 => 106 | n => n, fun | 9 => 9 | 5 => 5 | 3 => 3 | n => n, fun | n => n⟩
theorem Tryd.lays137 : Go.Proofs.Lays.n137 Tryd.prog Tryd.lays137_ren := {
  mixed := by kernel_rfl
  f137 := Tryd.func46.trans (congrArg some (by kernel_rfl))
  f217 := Tryd.func65.trans (congrArg some (by kernel_rfl))
  f266 := Tryd.func106.trans (congrArg some (by kernel_rfl))
  t3 := Tryd.underlying3
  a3 := Tryd.isAgg3
  z3 := Tryd.sizeOf3
  v3 := Tryd.zeroValue3
  t5 := Tryd.underlying5
  a5 := Tryd.isAgg5
  z5 := Tryd.sizeOf5
  v5 := Tryd.zeroValue5
  t9 := Tryd.underlying9
  a9 := Tryd.isAgg9
  z9 := Tryd.sizeOf9
  v9 := Tryd.zeroValue9 }
open Go.RowKit in
theorem Tryd.strings_IndexByte (s : ByteArray) (c : Int) (w : World) :
    Calls Tryd.prog 46 #[.string s, .int .u8 c] w fun e w' => e = .returned (.int .i64 (Lib.indexByte s.data.toList c.toNat.toUInt8)) ∧ w' = w := Any.strings_IndexByte Tryd.lays137 s c w
def Tryd.laysM173_ren : Go.Shelf.Ren := ⟨fun | 173 => 35 | 246 => 60 | 283 => 100 | 284 => 101 | 285 => 102 | 286 => 103 | 129 => 125 | 317 => 124 | 318 => 126 | 319 => 127 | 320 => 128 | 337 => 135 | 338 => 136 | n => n, fun | 2 => 2 | 3 => 3 | 9 => 9 | 4 => 4 | 171 => 128 | 0 => 0 | 53 => 97 | 37 => 54 | 5 => 5 | 173 => 131 | 212 => 137 | 51 => 138 | 20 => 20 | 213 => 139 | 46 => 89 | 232 => 146 | 233 => 147 | n => n, fun | 17 => 0 | 18 => 2 | 19 => 3 | n => n⟩
theorem Tryd.laysM173 : Go.Proofs.LaysM.n173 Tryd.prog Tryd.laysM173_ren := {
  mixed := by kernel_rfl
  f129 := Tryd.func125.trans (congrArg some (by kernel_rfl))
  f173 := Tryd.func35.trans (congrArg some (by kernel_rfl))
  f246 := Tryd.func60.trans (congrArg some (by kernel_rfl))
  f283 := Tryd.func100.trans (congrArg some (by kernel_rfl))
  f284 := Tryd.func101.trans (congrArg some (by kernel_rfl))
  f285 := Tryd.func102.trans (congrArg some (by kernel_rfl))
  f286 := Tryd.func103.trans (congrArg some (by kernel_rfl))
  f317 := Tryd.func124.trans (congrArg some (by kernel_rfl))
  f318 := Tryd.func126.trans (congrArg some (by kernel_rfl))
  f319 := Tryd.func127.trans (congrArg some (by kernel_rfl))
  f320 := Tryd.func128.trans (congrArg some (by kernel_rfl))
  f337 := Tryd.func135.trans (congrArg some (by kernel_rfl))
  f338 := Tryd.func136.trans (congrArg some (by kernel_rfl))
  t0 := Tryd.underlying0
  a0 := Tryd.isAgg0
  z0 := Tryd.sizeOf0
  v0 := Tryd.zeroValue0
  t2 := Tryd.underlying2
  a2 := Tryd.isAgg2
  z2 := Tryd.sizeOf2
  v2 := Tryd.zeroValue2
  t3 := Tryd.underlying3
  a3 := Tryd.isAgg3
  z3 := Tryd.sizeOf3
  v3 := Tryd.zeroValue3
  t4 := Tryd.underlying4
  a4 := Tryd.isAgg4
  z4 := Tryd.sizeOf4
  v4 := Tryd.zeroValue4
  t5 := Tryd.underlying5
  a5 := Tryd.isAgg5
  z5 := Tryd.sizeOf5
  v5 := Tryd.zeroValue5
  t9 := Tryd.underlying9
  a9 := Tryd.isAgg9
  z9 := Tryd.sizeOf9
  v9 := Tryd.zeroValue9
  t20 := Tryd.underlying20
  a20 := Tryd.isAgg20
  z20 := Tryd.sizeOf20
  v20 := Tryd.zeroValue20
  t37 := Tryd.underlying54
  a37 := Tryd.isAgg54
  z37 := Tryd.sizeOf54
  v37 := Tryd.zeroValue54
  t46 := Tryd.underlying89
  a46 := Tryd.isAgg89
  z46 := Tryd.sizeOf89
  v46 := Tryd.zeroValue89
  t51 := Tryd.underlying138
  a51 := Tryd.isAgg138
  z51 := Tryd.sizeOf138
  v51 := Tryd.zeroValue138
  t53 := Tryd.underlying97
  a53 := Tryd.isAgg97
  z53 := Tryd.sizeOf97
  v53 := Tryd.zeroValue97
  t171 := Tryd.underlying128
  a171 := Tryd.isAgg128
  z171 := Tryd.sizeOf128
  v171 := Tryd.zeroValue128
  t173 := Tryd.underlying131
  a173 := Tryd.isAgg131
  z173 := Tryd.sizeOf131
  v173 := Tryd.zeroValue131
  t212 := Tryd.underlying137
  a212 := Tryd.isAgg137
  z212 := Tryd.sizeOf137
  v212 := Tryd.zeroValue137
  t213 := Tryd.underlying139
  a213 := Tryd.isAgg139
  z213 := Tryd.sizeOf139
  t232 := Tryd.underlying146
  a232 := Tryd.isAgg146
  z232 := Tryd.sizeOf146
  v232 := Tryd.zeroValue146
  t233 := Tryd.underlying147
  a233 := Tryd.isAgg147
  z233 := Tryd.sizeOf147
  v233 := Tryd.zeroValue147
  g17 := by kernel_rfl
  g18 := by kernel_rfl
  g19 := by kernel_rfl
  i0 := by kernel_rfl
  i2 := by kernel_rfl
  i3 := by kernel_rfl
  i4 := by kernel_rfl
  i5 := by kernel_rfl
  i9 := by kernel_rfl
  i20 := by kernel_rfl
  i37 := by kernel_rfl
  i46 := by kernel_rfl
  i51 := by kernel_rfl
  i53 := by kernel_rfl
  i171 := by kernel_rfl
  i173 := by kernel_rfl
  i212 := by kernel_rfl
  i232 := by kernel_rfl
  i233 := by kernel_rfl
  m17 := by kernel_rfl
  m18 := by kernel_rfl
  m19 := by kernel_rfl }
open Go.RowKit Go.Sort Go.Lib in
theorem Tryd.strconv_FormatInt_10 (n : Int) (h0 : -9223372036854775808 ≤ n) (h1 : n ≤ 9223372036854775807) (w : World) (htab : Lib.TabIs Tryd.prog w "internal/strconv.uint64pow10" .u64 Lib.pow10Tab) :
    Calls Tryd.prog 35 #[.int .i64 n, .int .i64 10] w fun e w' => e = .returned (.string ⟨(Lib.itoa n).toArray⟩) ∧ ∃ k os, w' = grow (w.drewN k) os := Any.strconv_FormatInt_10 Tryd.laysM173 n h0 h1 w htab
end Go.Proofs.YtlbchdalimngjaaDoor.P
