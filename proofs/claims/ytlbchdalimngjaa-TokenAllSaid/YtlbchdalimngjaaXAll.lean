/- Proved here: what token.All computes: a source's tokens, or its first fault, in the form that the printed callers ask (no condition beyond its pure answer being told). -/
import Derived.Test.YtlbchdalimngjaaXAlld
import Derived.WalkMore
import Derived.ScopeJumps
namespace Go.Proofs.Ytlbchdalimngjaa.P
open Go.RowKit Go.Proofs.YtlbchdalimngjaaW.PrintWords Go.Proofs.YtlbchdalimngjaaW.PrintLast Go.Proofs.YtlbchdalimngjaaW.PrintMore
attribute [local go_sem] max2_int min2_int max_two min_two max_three min_three max_four min_four
set_option linter.unusedVariables false
set_option linter.unusedSimpArgs false

theorem ite_some {p : Prop} [Decidable p] {α : Type} {c : Option α} {r : α} (h : (if p then c else none) = some r) : p ∧ c = some r := by
  split at h
  · exact ⟨‹_›, h⟩
  · cases h
section
variable {P : Program} {Q : Exit → Act → World → Prop} {a : Act} {w : World}
/-- A scope with a label that is jumped to from ahead of it: what holds at the label stands behind a name. -/
theorem wp_scope_k {c B : Code} (l : Nat) (J : Act → World → Prop) (hf : findLabel c l = some (.seq .skip B))
    (pass : ∀ a w, J a w → B.wp P (Exit.noGoto Q) a w)
    (first : ∀ J' : Act → World → Prop, (∀ a w, J a w → J' a w) → (∀ a w, J a w → B.wp P (Exit.jump l J' Q) a w) → c.wp P (Exit.jump l J' Q) a w) : (Code.scope c).wp P Q a w := by
  have up : ∀ (J2 : Act → World → Prop) (a : Act) (w : World), J a w → B.wp P (Exit.jump l J2 Q) a w := fun J2 a w h => wp_mono (pass a w h) (by
    intro e a' w' hq
    cases e <;> first | exact hq | exact hq.elim)
  exact wp_scope_jumps l J (fun _ _ => 0) hf (first J (fun _ _ h => h) (up J)) (fun a w h => wp_seq (wp_skip (up _ a w h)))
variable {l : Nat} {J : Act → World → Prop}
theorem jump_normal : Exit.jump l J Q .normal a w = Q .normal a w := rfl
theorem jump_exit (id : Nat) : Exit.jump l J Q (.exit id) a w = Q (.exit id) a w := rfl
theorem jump_ret : Exit.jump l J Q .ret a w = Q .ret a w := rfl
theorem jump_panic (ch : List PanicEntry) : Exit.jump l J Q (.panic ch) a w = Q (.panic ch) a w := rfl
theorem jump_goto (h : J a w) : Exit.jump l J Q (.goto l) a w := ⟨rfl, h⟩
end
attribute [local go_sem] jump_normal jump_exit jump_ret jump_panic
set_option maxHeartbeats 8000000 in
set_option maxRecDepth 100000 in
theorem token_All.calls (k : Nat) (a0 : ByteArray) (r1 : List S33) (r2 : Int) (r3 : Int) (w : World) (h : token_All.f k a0 = some (r1, r2, r3)) :
    Calls Try.prog 21 #[.string a0] w fun e w' => ∃ v0_ : Value, e = .returned (.tuple #[v0_, .int .i64 r2, .int .i64 r3]) ∧ Kd.R k33 33 w' w.heap.size (fun _ => True) v0_ r1 ∧ Below w.heap.size w w' := by
  have hu33 := Try.underlying33
  have HB := Aside0.mk (Below.refl w.heap.size w)
  by_cases c2 : (a0.size : Int) > 16384
  · have H : some (([] : List S33), (0 : Int), (2 : Int)) = some (r1, r2, r3) := by unfold token_All.f at h; rwa [if_pos c2] at h
    clear h
    have c2b0 : decide (16384 < (a0.size : Int)) = true := decide_eq_true c2
    have c2b1 : decide (16384 < a0.size) = true := decide_eq_true (by omega)
    clear c2
    simp only [Option.some.injEq, Prod.mk.injEq] at H
    obtain ⟨rfl, rfl, rfl⟩ := H
    go_enter Try.func21, Try.ntmps21
    go_wp2
    go_step3
    go_wp2
    (try rw [Exit.noGoto_ret])
    go_ret3
    exact ⟨_, rfl, Kd.R_nil _ _ _ _ _, by repeat (first | (with_reducible first | exact HB.out | apply below_alloc | apply pw_below_drewN | apply below_drew1) | exact HB.out)⟩
  · have H : token_All.l0 k a0 [] 0 = some (r1, r2, r3) := by unfold token_All.f at h; rwa [if_neg c2] at h
    clear h
    have c2b0 : decide (16384 < (a0.size : Int)) = false := decide_eq_false c2
    have c2b1 : decide (16384 < a0.size) = false := decide_eq_false (by omega)
    have hsz := Aside0.mk c2
    clear c2
    have H' := Aside0.mk H
    clear H
    go_enter Try.func21, Try.ntmps21
    go_wp2
    go_step3
    go_wp2
    go_step3
    go_wp2
    go_loopg [2, 5] k (fun kq v2 v5 w' => ∃ (x2 : List S33) (x5 : Int), v5 = .int .i64 x5 ∧ Aside0 (token_All.l0 kq a0 x2 x5 = some (r1, r2, r3)) ∧ Aside0 (kq ≤ k) ∧ Aside0 (Kd.R k33 33 w' w.heap.size (fun _ => True) v2 x2) ∧ Aside0 (Below w.heap.size w w'))
    case atStart => exact ⟨[], 0, rfl, H', ⟨Nat.le_refl _⟩, ⟨Kd.R_nil _ _ _ _ _⟩, ⟨by repeat (first | (with_reducible first | exact HB.out | apply below_alloc | apply pw_below_drewN | apply below_drew1) | exact HB.out)⟩⟩
    case round =>
      clear H'
      try clear c2b0
      try clear c2b1
      obtain ⟨x2, x5, rfl, HA, HK1, HO, HB⟩ := hrel
      cases gk with
      | zero => exact absurd HA.out (by simp [token_All.l0])
      | succ k1 =>
        have H := HA.out
        clear HA
        rw [token_All.l0] at H
        by_cases c4 : x5 < (a0.size : Int)
        · rw [if_pos c4] at H
          have c4b0 : decide (x5 < (a0.size : Int)) = true := decide_eq_true c4
          by_cases c5 : 0 ≤ x5
          · rw [if_pos c5] at H
            have c5b0 : decide (0 ≤ x5) = true := decide_eq_true c5
            obtain ⟨st, A0, H⟩ := Option.bind_eq_some_iff.mp H
            have AS := Aside0.mk A0
            clear A0
            have HH := Aside0.mk H
            clear H
            have p5 := eq_true c5
            have q5 := eq_true c4
            have hx5 := bt_at a0 x5
            clear c4 c5
            go_wp2
            refine wp_scope_k (B := ?B) 1 (fun a' w' => ∃ (x : S33) (en : Int) (kq gb : Nat) (v2 : Value) (y3 y4 y6 y12 y13 y14 y15 y16 y17 y18 y19 y20 y21 y22 y23 y24 y25 y26 y27 y28 y29 y30 y31 y32 y33 y34 y35 y36 y37 y38 y39 y40 y41 y42 y43 y44 y45 y46 y47 y48 y49 y50 y51 y52 y53 y54 y55 y56 y57 y58 y59 y60 y61 y62 y63 y64 y65 y66 y67 y68 y69 y70 y71 y72 y73 y74 y75 y76 y77 y78 y79 y80 y81 y82 y83 y84 y85 y86 y87 y88 y89 y90 y91 y92 y93 y94 y95 y96 y97 y98 y99 y100 y101 y102 y103 y104 y105 y106 y107 y108 y109 y110 y111 y112 y113 y114 y115 y116 y117 y118 y119 y120 y121 y122 y123 y124 y125 y126 y127 y128 y129 y130 y131 y132 y133 y134 y135 y136 y137 y138 y139 y140 y141 y142 y143 y144 y145 y146 y147 y148 y149 y150 y151 y152 y153 y154 y155 y156 y157 y158 y159 : Value), Aside0 (token_All.l0 kq a0 (x2 ++ [x]) en = some (r1, r2, r3)) ∧ Aside0 (kq ≤ k1) ∧ Aside0 (w'.heap[gb]? = some (.cells #[.int .u8 x.f0, .string x.f1, .int .i64 x.f2, .int .i64 x.f3] 33 (0, 0))) ∧ Aside0 (Kd.R k33 33 w' w.heap.size (fun k => k ≠ gb) v2 x2) ∧ Aside0 (Below w.heap.size w w') ∧ Aside0 (w.heap.size ≤ gb) ∧ Aside0 (x2.length < 3518437208883) ∧ a' = { tmps := #[.string a0, undef, v2, y3, y4, .int .i64 x5, y6, .pointer (some ⟨gb, 0, none⟩), .int .i64 en, .string a0, .int .i64 (a0.size : Int), .bool false, y12, y13, y14, y15, y16, y17, y18, y19, y20, y21, y22, y23, y24, y25, y26, y27, y28, y29, y30, y31, y32, y33, y34, y35, y36, y37, y38, y39, y40, y41, y42, y43, y44, y45, y46, y47, y48, y49, y50, y51, y52, y53, y54, y55, y56, y57, y58, y59, y60, y61, y62, y63, y64, y65, y66, y67, y68, y69, y70, y71, y72, y73, y74, y75, y76, y77, y78, y79, y80, y81, y82, y83, y84, y85, y86, y87, y88, y89, y90, y91, y92, y93, y94, y95, y96, y97, y98, y99, y100, y101, y102, y103, y104, y105, y106, y107, y108, y109, y110, y111, y112, y113, y114, y115, y116, y117, y118, y119, y120, y121, y122, y123, y124, y125, y126, y127, y128, y129, y130, y131, y132, y133, y134, y135, y136, y137, y138, y139, y140, y141, y142, y143, y144, y145, y146, y147, y148, y149, y150, y151, y152, y153, y154, y155, y156, y157, y158, y159, undef], defers := [] }) ?hf ?_ ?_
            case hf => simp only [findLabel]; rfl
            · intro a' w' hinv
              obtain ⟨x, hinv⟩ := hinv
              obtain ⟨en, hinv⟩ := hinv
              obtain ⟨kq, hinv⟩ := hinv
              obtain ⟨gb, hinv⟩ := hinv
              obtain ⟨v2, hinv⟩ := hinv
              obtain ⟨y3, hinv⟩ := hinv
              obtain ⟨y4, hinv⟩ := hinv
              obtain ⟨y6, hinv⟩ := hinv
              obtain ⟨y12, hinv⟩ := hinv
              obtain ⟨y13, hinv⟩ := hinv
              obtain ⟨y14, hinv⟩ := hinv
              obtain ⟨y15, hinv⟩ := hinv
              obtain ⟨y16, hinv⟩ := hinv
              obtain ⟨y17, hinv⟩ := hinv
              obtain ⟨y18, hinv⟩ := hinv
              obtain ⟨y19, hinv⟩ := hinv
              obtain ⟨y20, hinv⟩ := hinv
              obtain ⟨y21, hinv⟩ := hinv
              obtain ⟨y22, hinv⟩ := hinv
              obtain ⟨y23, hinv⟩ := hinv
              obtain ⟨y24, hinv⟩ := hinv
              obtain ⟨y25, hinv⟩ := hinv
              obtain ⟨y26, hinv⟩ := hinv
              obtain ⟨y27, hinv⟩ := hinv
              obtain ⟨y28, hinv⟩ := hinv
              obtain ⟨y29, hinv⟩ := hinv
              obtain ⟨y30, hinv⟩ := hinv
              obtain ⟨y31, hinv⟩ := hinv
              obtain ⟨y32, hinv⟩ := hinv
              obtain ⟨y33, hinv⟩ := hinv
              obtain ⟨y34, hinv⟩ := hinv
              obtain ⟨y35, hinv⟩ := hinv
              obtain ⟨y36, hinv⟩ := hinv
              obtain ⟨y37, hinv⟩ := hinv
              obtain ⟨y38, hinv⟩ := hinv
              obtain ⟨y39, hinv⟩ := hinv
              obtain ⟨y40, hinv⟩ := hinv
              obtain ⟨y41, hinv⟩ := hinv
              obtain ⟨y42, hinv⟩ := hinv
              obtain ⟨y43, hinv⟩ := hinv
              obtain ⟨y44, hinv⟩ := hinv
              obtain ⟨y45, hinv⟩ := hinv
              obtain ⟨y46, hinv⟩ := hinv
              obtain ⟨y47, hinv⟩ := hinv
              obtain ⟨y48, hinv⟩ := hinv
              obtain ⟨y49, hinv⟩ := hinv
              obtain ⟨y50, hinv⟩ := hinv
              obtain ⟨y51, hinv⟩ := hinv
              obtain ⟨y52, hinv⟩ := hinv
              obtain ⟨y53, hinv⟩ := hinv
              obtain ⟨y54, hinv⟩ := hinv
              obtain ⟨y55, hinv⟩ := hinv
              obtain ⟨y56, hinv⟩ := hinv
              obtain ⟨y57, hinv⟩ := hinv
              obtain ⟨y58, hinv⟩ := hinv
              obtain ⟨y59, hinv⟩ := hinv
              obtain ⟨y60, hinv⟩ := hinv
              obtain ⟨y61, hinv⟩ := hinv
              obtain ⟨y62, hinv⟩ := hinv
              obtain ⟨y63, hinv⟩ := hinv
              obtain ⟨y64, hinv⟩ := hinv
              obtain ⟨y65, hinv⟩ := hinv
              obtain ⟨y66, hinv⟩ := hinv
              obtain ⟨y67, hinv⟩ := hinv
              obtain ⟨y68, hinv⟩ := hinv
              obtain ⟨y69, hinv⟩ := hinv
              obtain ⟨y70, hinv⟩ := hinv
              obtain ⟨y71, hinv⟩ := hinv
              obtain ⟨y72, hinv⟩ := hinv
              obtain ⟨y73, hinv⟩ := hinv
              obtain ⟨y74, hinv⟩ := hinv
              obtain ⟨y75, hinv⟩ := hinv
              obtain ⟨y76, hinv⟩ := hinv
              obtain ⟨y77, hinv⟩ := hinv
              obtain ⟨y78, hinv⟩ := hinv
              obtain ⟨y79, hinv⟩ := hinv
              obtain ⟨y80, hinv⟩ := hinv
              obtain ⟨y81, hinv⟩ := hinv
              obtain ⟨y82, hinv⟩ := hinv
              obtain ⟨y83, hinv⟩ := hinv
              obtain ⟨y84, hinv⟩ := hinv
              obtain ⟨y85, hinv⟩ := hinv
              obtain ⟨y86, hinv⟩ := hinv
              obtain ⟨y87, hinv⟩ := hinv
              obtain ⟨y88, hinv⟩ := hinv
              obtain ⟨y89, hinv⟩ := hinv
              obtain ⟨y90, hinv⟩ := hinv
              obtain ⟨y91, hinv⟩ := hinv
              obtain ⟨y92, hinv⟩ := hinv
              obtain ⟨y93, hinv⟩ := hinv
              obtain ⟨y94, hinv⟩ := hinv
              obtain ⟨y95, hinv⟩ := hinv
              obtain ⟨y96, hinv⟩ := hinv
              obtain ⟨y97, hinv⟩ := hinv
              obtain ⟨y98, hinv⟩ := hinv
              obtain ⟨y99, hinv⟩ := hinv
              obtain ⟨y100, hinv⟩ := hinv
              obtain ⟨y101, hinv⟩ := hinv
              obtain ⟨y102, hinv⟩ := hinv
              obtain ⟨y103, hinv⟩ := hinv
              obtain ⟨y104, hinv⟩ := hinv
              obtain ⟨y105, hinv⟩ := hinv
              obtain ⟨y106, hinv⟩ := hinv
              obtain ⟨y107, hinv⟩ := hinv
              obtain ⟨y108, hinv⟩ := hinv
              obtain ⟨y109, hinv⟩ := hinv
              obtain ⟨y110, hinv⟩ := hinv
              obtain ⟨y111, hinv⟩ := hinv
              obtain ⟨y112, hinv⟩ := hinv
              obtain ⟨y113, hinv⟩ := hinv
              obtain ⟨y114, hinv⟩ := hinv
              obtain ⟨y115, hinv⟩ := hinv
              obtain ⟨y116, hinv⟩ := hinv
              obtain ⟨y117, hinv⟩ := hinv
              obtain ⟨y118, hinv⟩ := hinv
              obtain ⟨y119, hinv⟩ := hinv
              obtain ⟨y120, hinv⟩ := hinv
              obtain ⟨y121, hinv⟩ := hinv
              obtain ⟨y122, hinv⟩ := hinv
              obtain ⟨y123, hinv⟩ := hinv
              obtain ⟨y124, hinv⟩ := hinv
              obtain ⟨y125, hinv⟩ := hinv
              obtain ⟨y126, hinv⟩ := hinv
              obtain ⟨y127, hinv⟩ := hinv
              obtain ⟨y128, hinv⟩ := hinv
              obtain ⟨y129, hinv⟩ := hinv
              obtain ⟨y130, hinv⟩ := hinv
              obtain ⟨y131, hinv⟩ := hinv
              obtain ⟨y132, hinv⟩ := hinv
              obtain ⟨y133, hinv⟩ := hinv
              obtain ⟨y134, hinv⟩ := hinv
              obtain ⟨y135, hinv⟩ := hinv
              obtain ⟨y136, hinv⟩ := hinv
              obtain ⟨y137, hinv⟩ := hinv
              obtain ⟨y138, hinv⟩ := hinv
              obtain ⟨y139, hinv⟩ := hinv
              obtain ⟨y140, hinv⟩ := hinv
              obtain ⟨y141, hinv⟩ := hinv
              obtain ⟨y142, hinv⟩ := hinv
              obtain ⟨y143, hinv⟩ := hinv
              obtain ⟨y144, hinv⟩ := hinv
              obtain ⟨y145, hinv⟩ := hinv
              obtain ⟨y146, hinv⟩ := hinv
              obtain ⟨y147, hinv⟩ := hinv
              obtain ⟨y148, hinv⟩ := hinv
              obtain ⟨y149, hinv⟩ := hinv
              obtain ⟨y150, hinv⟩ := hinv
              obtain ⟨y151, hinv⟩ := hinv
              obtain ⟨y152, hinv⟩ := hinv
              obtain ⟨y153, hinv⟩ := hinv
              obtain ⟨y154, hinv⟩ := hinv
              obtain ⟨y155, hinv⟩ := hinv
              obtain ⟨y156, hinv⟩ := hinv
              obtain ⟨y157, hinv⟩ := hinv
              obtain ⟨y158, hinv⟩ := hinv
              obtain ⟨y159, hinv⟩ := hinv
              obtain ⟨HN, HKQ, BK, HO, HB, GW, HL, ha⟩ := hinv
              subst ha
              have hcz0 : w'.cell? ⟨gb, 0, none⟩ = some (.int .u8 x.f0) := (blk_cell BK.out 0).trans rfl
              have hcz1 : w'.cell? ⟨gb, 1, none⟩ = some (.string x.f1) := (blk_cell BK.out 1).trans rfl
              have hcz2 : w'.cell? ⟨gb, 2, none⟩ = some (.int .i64 x.f2) := (blk_cell BK.out 2).trans rfl
              have hcz3 : w'.cell? ⟨gb, 3, none⟩ = some (.int .i64 x.f3) := (blk_cell BK.out 3).trans rfl
              go_wp2_with (first | ((with_reducible refine gate_builtin (b := .append) (xs := #[.tmp 155, .tmp 157]) rfl ?_); at_builtin; refine Kd.R_append k33 (w0 := w) w.heap.size rfl (.tmp 155) (.tmp 157) 27 33 (.agg #[(.int .u8 0), (.string ⟨#[]⟩), (.int .i64 0), (.int .i64 0)]) 40 rfl Try.underlying27 info33 rfl (by decide) (by omega) v2 x2 x [.int .u8 x.f0, .string x.f1, .int .i64 x.f2, .int .i64 x.f3] (fun _ => True) (fun _ => False) rfl (by first | (go_simp; done) | (go_simp; rfl)) ?aP (fun _ hk => hk.elim) ?aF ?aO ?aB ?aS ?aL ?_; (case aP => exact k33_mkM _ _ _ x); (case aB => exact HB.out); (case aF => exact (fun _ _ => trivial)); (case aO => exact Kd.R_mono HO.out (fun _ _ => trivial)); (case aS => exact HB.out.size); (case aL => have := HL.out; omega); intro v3 w3 ho hb hg hat; clear HO HB hat hg; have HO := Aside0.mk ho; have HB := Aside0.mk hb; clear ho hb))
              (try simp only [Exit.noGoto_normal, Exit.inBlock, Exit.then])
              (try go_wp2)
              go_roundg kq
              case measure => have := HKQ.out; omega
              case rel => exact ⟨x2 ++ [x], en, rfl, HN, ⟨by have := HKQ.out; have := HK1.out; omega⟩, HO, HB⟩
            · intro J' hJ' hB
              go_upto_region 8 with (first | ((with_reducible refine gate_dst (N := 7) rfl ?_); refine box_event ?hg (N := 7) ?hd (cs := #[.int .u8 0, .string (⟨#[]⟩ : ByteArray), .int .i64 0, .int .i64 0]) (t := 33) ?hr ?_; (case hd => rfl); (case hg => rfl); (case hr => first | (go_simp; done) | (go_simp; rfl)); intro gb hg w1 hbox hb; have n0 := Aside0.mk (Kd.R_below (Kd.R_mono (ok' := fun k => k ≠ gb) (Kd.R_bound (by (with_reducible repeat (first | apply Kd.R_alloc | apply Kd.R_drewN | apply Kd.R_drew)); exact HO.out)) (fun k hk e_ => by rw [hg] at e_; exact absurd hk.2.2.1 (by rw [e_]; exact Nat.lt_irrefl _))) hb); have n1 := Aside0.mk (below_step (by repeat (first | (with_reducible first | exact HB.out | apply below_alloc | apply pw_below_drewN | apply below_drew1) | exact HB.out)) hb); have n2 := Aside0.mk hbox; have n3 := Aside0.mk ((by rw [hg]; exact (below_size (by repeat (first | (with_reducible first | exact HB.out | apply below_alloc | apply pw_below_drewN | apply below_drew1) | exact HB.out)))) : w.heap.size ≤ gb); clear HO HB; have HO := n0; have HB := n1; have BK := n2; have GW := n3; clear n0 n1 n2 n3; clear hb hbox hg; have hcz0 : w1.cell? ⟨gb, 0, none⟩ = some (.int .u8 0) := (blk_cell BK.out 0).trans rfl; have hcz1 : w1.cell? ⟨gb, 1, none⟩ = some (.string (⟨#[]⟩ : ByteArray)) := (blk_cell BK.out 1).trans rfl; have hcz2 : w1.cell? ⟨gb, 2, none⟩ = some (.int .i64 0) := (blk_cell BK.out 2).trans rfl; have hcz3 : w1.cell? ⟨gb, 3, none⟩ = some (.int .i64 0) := (blk_cell BK.out 3).trans rfl; have hfz0 := blk_frozen BK.out 0; have hfz1 := blk_frozen BK.out 1; have hfz2 := blk_frozen BK.out 2; have hfz3 := blk_frozen BK.out 3))
              clear H
              obtain ⟨w2, hw2⟩ : ∃ w2 : World, w2 = ((((w1.setCell ⟨gb, 0, none⟩ (.int .u8 0)).setCell ⟨gb, 1, none⟩ (.string ⟨#[]⟩)).setCell ⟨gb, 2, none⟩ (.int .i64 0)).setCell ⟨gb, 3, none⟩ (.int .i64 x5)) := ⟨_, rfl⟩
              have BK2 : w2.heap[gb]? = some (.cells #[.int .u8 0, .string ⟨#[]⟩, .int .i64 0, .int .i64 x5] 33 (0, 0)) := by rw [hw2]; exact blk_set (blk_set (blk_set (blk_set BK.out 0 _) 1 _) 2 _) 3 _
              have HB2 : Below w.heap.size w w2 := by rw [hw2]; exact below_set (below_set (below_set (below_set HB.out GW.out) GW.out) GW.out) GW.out
              have HO2 : Kd.R k33 33 w2 w.heap.size (fun k => k ≠ gb) u2 x2 := by rw [hw2]; exact (Kd.R_far (p := ⟨gb, 3, none⟩) (Kd.R_far (p := ⟨gb, 2, none⟩) (Kd.R_far (p := ⟨gb, 1, none⟩) (Kd.R_far (p := ⟨gb, 0, none⟩) HO.out (fun _ h => h) _) (fun _ h => h) _) (fun _ h => h) _) (fun _ h => h) _)
              rw [← hw2]
              clear hw2 hcz0 hcz1 hcz2 hcz3 hfz0 hfz1 hfz2 hfz3 HO HB BK
              have BK := Aside0.mk BK2
              have HB := Aside0.mk HB2
              have HO := Aside0.mk HO2
              clear BK2 HB2 HO2 w1
              have hcz0 : w2.cell? ⟨gb, 0, none⟩ = some (.int .u8 0) := (blk_cell BK.out 0).trans rfl
              have hcz1 : w2.cell? ⟨gb, 1, none⟩ = some (.string (⟨#[]⟩ : ByteArray)) := (blk_cell BK.out 1).trans rfl
              have hcz2 : w2.cell? ⟨gb, 2, none⟩ = some (.int .i64 0) := (blk_cell BK.out 2).trans rfl
              have hcz3 : w2.cell? ⟨gb, 3, none⟩ = some (.int .i64 x5) := (blk_cell BK.out 3).trans rfl
              have hfz0 := blk_frozen BK.out 0
              have hfz1 := blk_frozen BK.out 1
              have hfz2 := blk_frozen BK.out 2
              have hfz3 := blk_frozen BK.out 3
              have HX := Aside0.mk (⟨of_eq_true p5, of_eq_true q5⟩ : 0 ≤ x5 ∧ x5 < (a0.size : Int))
              have he1 : wrap64 (x5 + 1) = x5 + 1 := by have := HX.out; have := hsz.out; unfold wrap64; omega
              have HE := Aside0.mk he1
              clear he1
              have A := AS.out
              clear AS
              unfold token_All.one at A
              by_cases c32 : bt a0 x5 = 32
              · rw [if_pos c32] at A
                have c32b0 : ((bt a0 x5) == 32) = true := beq_iff_eq.mpr c32
                have c32b1 : ((bt a0 x5) != 32) = false := bne_eq_false_iff_eq.mpr c32
                clear c32
                obtain rfl := Option.some.inj A
                clear A
                go_wp2
                (try simp only [jump_exit, Exit.inBlock, Exit.then, ↓reduceIte])
                (try go_wp2)
                go_roundg k1
                case measure => omega
                case rel => exact ⟨x2, wrap64 (x5 + 1), (by first | rfl | (simp; done) | (simp [*]; done)), HH, ⟨by have := HK1.out; omega⟩, ⟨Kd.R_mono (by (with_reducible repeat (first | apply Kd.R_alloc | apply Kd.R_drewN | apply Kd.R_drew)); exact HO.out) (fun _ _ => trivial)⟩, ⟨by repeat (first | (with_reducible first | exact HB.out | apply below_alloc | apply pw_below_drewN | apply below_drew1 | refine below_set ?_ GW.out) | exact HB.out)⟩⟩
              rw [if_neg c32] at A
              have c32b0 : ((bt a0 x5) == 32) = false := beq_eq_false_iff_ne.mpr c32
              have c32b1 : ((bt a0 x5) != 32) = true := bne_iff_ne.mpr c32
              clear c32
              by_cases c10 : bt a0 x5 = 10
              · rw [if_pos c10] at A
                have c10b0 : ((bt a0 x5) == 10) = true := beq_iff_eq.mpr c10
                have c10b1 : ((bt a0 x5) != 10) = false := bne_eq_false_iff_eq.mpr c10
                clear c10
                obtain rfl := Option.some.inj A
                clear A
                go_wp2
                (try simp only [jump_exit, Exit.inBlock, Exit.then, ↓reduceIte])
                (try go_wp2)
                go_roundg k1
                case measure => omega
                case rel => exact ⟨x2, wrap64 (x5 + 1), (by first | rfl | (simp; done) | (simp [*]; done)), HH, ⟨by have := HK1.out; omega⟩, ⟨Kd.R_mono (by (with_reducible repeat (first | apply Kd.R_alloc | apply Kd.R_drewN | apply Kd.R_drew)); exact HO.out) (fun _ _ => trivial)⟩, ⟨by repeat (first | (with_reducible first | exact HB.out | apply below_alloc | apply pw_below_drewN | apply below_drew1 | refine below_set ?_ GW.out) | exact HB.out)⟩⟩
              rw [if_neg c10] at A
              have c10b0 : ((bt a0 x5) == 10) = false := beq_eq_false_iff_ne.mpr c10
              have c10b1 : ((bt a0 x5) != 10) = true := bne_iff_ne.mpr c10
              clear c10
              by_cases c35 : bt a0 x5 = 35
              · rw [if_pos c35] at A
                have c35b0 : ((bt a0 x5) == 35) = true := beq_iff_eq.mpr c35
                have c35b1 : ((bt a0 x5) != 35) = false := bne_eq_false_iff_eq.mpr c35
                clear c35
                obtain ⟨j, AR, e1⟩ := Option.bind_eq_some_iff.mp A
                clear A
                obtain rfl := Option.some.inj e1
                have AR := Aside0.mk AR
                go_wp2
                go_loopg [5] k1 (fun kq v5 w' => ∃ x : Int, v5 = .int .i64 x ∧ Aside0 (token_All.rem kq a0 x = some j) ∧ Aside0 (0 ≤ x) ∧ w2 = w')
                case atStart => exact ⟨x5, rfl, AR, ⟨HX.out.1⟩, rfl⟩
                case round =>
                  clear AR
                  obtain ⟨x, rfl, HA, HX0, rfl⟩ := hrel
                  cases gk with
                  | zero => exact absurd HA.out (by simp [token_All.rem])
                  | succ k2 =>
                    have H := HA.out
                    clear HA
                    rw [token_All.rem] at H
                    by_cases d1 : x < (a0.size : Int)
                    · rw [if_pos d1] at H
                      have d1b0 : decide (x < (a0.size : Int)) = true := decide_eq_true d1
                      have px := eq_true HX0.out
                      have qx := eq_true d1
                      have hx6 := bt_at a0 x
                      have HD := Aside0.mk d1
                      clear d1
                      by_cases d2 : bt a0 x = 10
                      · rw [if_pos d2] at H
                        have d2b0 : ((bt a0 x) == 10) = true := beq_iff_eq.mpr d2
                        have d2b1 : ((bt a0 x) != 10) = false := bne_eq_false_iff_eq.mpr d2
                        clear d2
                        obtain rfl := Option.some.inj H
                        clear H
                        go_wp2
                        (try simp only [jump_exit, Exit.inBlock, Exit.then, ↓reduceIte])
                        (try go_wp2)
                        go_roundg k1
                        case measure => omega
                        case rel => exact ⟨x2, _, (by first | rfl | (simp; done) | (simp [*]; done)), HH, ⟨by have := HK1.out; omega⟩, ⟨Kd.R_mono (by (with_reducible repeat (first | apply Kd.R_alloc | apply Kd.R_drewN | apply Kd.R_drew)); exact HO.out) (fun _ _ => trivial)⟩, ⟨by repeat (first | (with_reducible first | exact HB.out | apply below_alloc | apply pw_below_drewN | apply below_drew1 | refine below_set ?_ GW.out) | exact HB.out)⟩⟩
                      · rw [if_neg d2] at H
                        have d2b0 : ((bt a0 x) == 10) = false := beq_eq_false_iff_ne.mpr d2
                        have d2b1 : ((bt a0 x) != 10) = true := bne_iff_ne.mpr d2
                        clear d2
                        have H2 := Aside0.mk H
                        clear H
                        go_wp2
                        go_roundg k2
                        case measure => omega
                        case rel => exact ⟨wrap64 (x + 1), (by first | rfl | (simp; done) | (simp [*]; done)), H2, ⟨by have := HX0.out; have := HD.out; have := hsz.out; unfold wrap64; omega⟩, rfl⟩
                    · rw [if_neg d1] at H
                      have d1b0 : decide (x < (a0.size : Int)) = false := decide_eq_false d1
                      clear d1
                      obtain rfl := Option.some.inj H
                      clear H
                      go_wp2
                      (try simp only [jump_exit, Exit.inBlock, Exit.then, ↓reduceIte])
                      (try go_wp2)
                      go_roundg k1
                      case measure => omega
                      case rel => exact ⟨x2, _, (by first | rfl | (simp; done) | (simp [*]; done)), HH, ⟨by have := HK1.out; omega⟩, ⟨Kd.R_mono (by (with_reducible repeat (first | apply Kd.R_alloc | apply Kd.R_drewN | apply Kd.R_drew)); exact HO.out) (fun _ _ => trivial)⟩, ⟨by repeat (first | (with_reducible first | exact HB.out | apply below_alloc | apply pw_below_drewN | apply below_drew1 | refine below_set ?_ GW.out) | exact HB.out)⟩⟩
              rw [if_neg c35] at A
              have c35b0 : ((bt a0 x5) == 35) = false := beq_eq_false_iff_ne.mpr c35
              have c35b1 : ((bt a0 x5) != 35) = true := bne_iff_ne.mpr c35
              clear c35
              obtain ⟨bL, AL, A⟩ := Option.bind_eq_some_iff.mp A
              have AL := Aside0.mk AL
              by_cases cL : bL = true
              · subst cL
                rw [if_pos rfl] at A
                obtain ⟨j, AW, A⟩ := Option.bind_eq_some_iff.mp A
                have AW := Aside0.mk AW
                go_wp2_with (first | (go_at_call 39; (with_reducible refine (token_letter.calls (bt a0 x5) true _ AL.out).mono ?_); rintro e w' ⟨rfl, ⟨nd, rfl⟩⟩))
                go_loopg [8] k1 (fun kq v8 w' => ∃ x : Int, v8 = .int .i64 x ∧ Aside0 (token_All.wd kq a0 x = some j) ∧ Aside0 (x5 ≤ x ∧ x ≤ (a0.size : Int)) ∧ Drawn0 w2 w')
                case atStart => exact ⟨wrap64 (x5 + 1), rfl, AW, ⟨by have := HX.out; rw [HE.out]; omega⟩, ⟨⟨_, rfl⟩⟩⟩
                case round =>
                  clear AW
                  obtain ⟨x, rfl, HA, HX0, ⟨m1, rfl⟩⟩ := hrel
                  cases gk with
                  | zero => exact absurd HA.out (by simp [token_All.wd])
                  | succ k2 =>
                    have H := HA.out
                    clear HA
                    rw [token_All.wd] at H
                    by_cases d1 : x < (a0.size : Int)
                    · rw [if_pos d1] at H
                      have d1b0 : decide (x < (a0.size : Int)) = true := decide_eq_true d1
                      have px := eq_true (Int.le_trans HX.out.1 HX0.out.1)
                      have qx := eq_true d1
                      have hx6 := bt_at a0 x
                      have HD := Aside0.mk d1
                      clear d1
                      obtain ⟨bI, AI, H⟩ := Option.bind_eq_some_iff.mp H
                      have AI := Aside0.mk AI
                      by_cases dI : bI = true
                      · subst dI
                        rw [if_pos rfl] at H
                        have H2 := Aside0.mk H
                        clear H
                        go_wp2_with (first | (go_at_call 40; (with_reducible refine (token_inner.calls (bt a0 x) true _ AI.out).mono ?_); rintro e w' ⟨rfl, ⟨nd2, rfl⟩⟩))
                        go_roundg k2
                        case measure => omega
                        case rel => exact ⟨wrap64 (x + 1), (by first | rfl | (simp; done) | (simp [*]; done)), H2, ⟨by have := HX0.out; have := HD.out; have := HX.out; have := hsz.out; unfold wrap64; omega⟩, by repeat (first | exact Drawn0.refl _ | apply Drawn0.step)⟩
                      · replace dI := Bool.eq_false_iff.mpr dI
                        subst dI
                        rw [if_neg (by decide)] at H
                        obtain rfl := Option.some.inj H
                        clear H
                        by_cases c24 : wrap64 (x - x5) > 24
                        · rw [if_pos c24] at A
                          obtain rfl := Option.some.inj A
                          clear A
                          have c24b0 : decide (24 < wrap64 (x - x5)) = true := decide_eq_true c24
                          clear c24
                          have H := HH.out
                          clear HH
                          simp only [Option.some.injEq, Prod.mk.injEq] at H
                          obtain ⟨rfl, rfl, rfl⟩ := H
                          go_wp2_with (first | (go_at_call 40; (with_reducible refine (token_inner.calls (bt a0 x) false _ AI.out).mono ?_); rintro e w' ⟨rfl, ⟨nd2, rfl⟩⟩))
                          (try simp only [jump_ret, Exit.inBlock, Exit.then, Exit.noGoto_ret])
                          go_ret3
                          exact ⟨_, (by first | rfl | (simp; done) | (simp [*]; done)), Kd.R_nil _ _ _ _ _, by repeat (first | (with_reducible first | exact HB.out | apply below_alloc | apply pw_below_drewN | apply below_drew1 | refine below_set ?_ GW.out) | exact HB.out)⟩
                        · rw [if_neg c24] at A
                          have c24b0 : decide (24 < wrap64 (x - x5)) = false := decide_eq_false c24
                          clear c24
                          rw [if_pos HX0.out.2, if_pos HX0.out.1] at A
                          obtain rfl := Option.some.inj A
                          clear A
                          obtain ⟨HL, HN⟩ := ite_some HH.out
                          have HN := Aside0.mk HN
                          have HL := Aside0.mk HL
                          clear HH
                          have s1 := eq_true HX.out.1
                          have s2 := eq_true HX0.out.1
                          have s3 := eq_true HX0.out.2
                          have s1b : decide (0 ≤ x5) = true := decide_eq_true HX.out.1
                          have s2b : decide (x5 ≤ x) = true := decide_eq_true HX0.out.1
                          have s3b : decide (x ≤ (a0.size : Int)) = true := decide_eq_true HX0.out.2
                          go_wp2_with (first | (go_at_call 40; (with_reducible refine (token_inner.calls (bt a0 x) false _ AI.out).mono ?_); rintro e w' ⟨rfl, ⟨nd2, rfl⟩⟩))
                          go_region
                          all_goals go_wp2
                          all_goals (go_step3; (try simp only [Exit.inBlock, Exit.then]); refine jump_goto (hJ' _ _ ?_); (repeat apply Exists.intro); refine ⟨HN, ⟨Nat.le_refl _⟩, ?_, ?_, ?_, GW, HL, rfl⟩)
                          all_goals first | exact ⟨by (with_reducible repeat (first | refine blk_drewN ?_ _ | refine blk_drew ?_ | refine blk_alloc ?_ _)); exact (blk_set (blk_set BK.out 0 (.int .u8 1)) 1 (.string _))⟩ | exact ⟨by (with_reducible repeat (first | apply Kd.R_alloc | apply Kd.R_drewN | apply Kd.R_drew)); exact (Kd.R_far (p := ⟨gb, 1, none⟩) (Kd.R_far (p := ⟨gb, 0, none⟩) HO.out (fun _ h => h) _) (fun _ h => h) _)⟩ | exact ⟨by repeat (first | (with_reducible first | exact HB.out | apply below_alloc | apply pw_below_drewN | apply below_drew1 | refine below_set ?_ GW.out) | exact HB.out)⟩
                    · rw [if_neg d1] at H
                      have d1b0 : decide (x < (a0.size : Int)) = false := decide_eq_false d1
                      clear d1
                      obtain rfl := Option.some.inj H
                      clear H
                      by_cases c24 : wrap64 (x - x5) > 24
                      · rw [if_pos c24] at A
                        obtain rfl := Option.some.inj A
                        clear A
                        have c24b0 : decide (24 < wrap64 (x - x5)) = true := decide_eq_true c24
                        clear c24
                        have H := HH.out
                        clear HH
                        simp only [Option.some.injEq, Prod.mk.injEq] at H
                        obtain ⟨rfl, rfl, rfl⟩ := H
                        go_wp2_with (first | fail)
                        (try simp only [jump_ret, Exit.inBlock, Exit.then, Exit.noGoto_ret])
                        go_ret3
                        exact ⟨_, (by first | rfl | (simp; done) | (simp [*]; done)), Kd.R_nil _ _ _ _ _, by repeat (first | (with_reducible first | exact HB.out | apply below_alloc | apply pw_below_drewN | apply below_drew1 | refine below_set ?_ GW.out) | exact HB.out)⟩
                      · rw [if_neg c24] at A
                        have c24b0 : decide (24 < wrap64 (x - x5)) = false := decide_eq_false c24
                        clear c24
                        rw [if_pos HX0.out.2, if_pos HX0.out.1] at A
                        obtain rfl := Option.some.inj A
                        clear A
                        obtain ⟨HL, HN⟩ := ite_some HH.out
                        have HN := Aside0.mk HN
                        have HL := Aside0.mk HL
                        clear HH
                        have s1 := eq_true HX.out.1
                        have s2 := eq_true HX0.out.1
                        have s3 := eq_true HX0.out.2
                        have s1b : decide (0 ≤ x5) = true := decide_eq_true HX.out.1
                        have s2b : decide (x5 ≤ x) = true := decide_eq_true HX0.out.1
                        have s3b : decide (x ≤ (a0.size : Int)) = true := decide_eq_true HX0.out.2
                        go_wp2_with (first | fail)
                        go_region
                        all_goals go_wp2
                        all_goals (go_step3; (try simp only [Exit.inBlock, Exit.then]); refine jump_goto (hJ' _ _ ?_); (repeat apply Exists.intro); refine ⟨HN, ⟨Nat.le_refl _⟩, ?_, ?_, ?_, GW, HL, rfl⟩)
                        all_goals first | exact ⟨by (with_reducible repeat (first | refine blk_drewN ?_ _ | refine blk_drew ?_ | refine blk_alloc ?_ _)); exact (blk_set (blk_set BK.out 0 (.int .u8 1)) 1 (.string _))⟩ | exact ⟨by (with_reducible repeat (first | apply Kd.R_alloc | apply Kd.R_drewN | apply Kd.R_drew)); exact (Kd.R_far (p := ⟨gb, 1, none⟩) (Kd.R_far (p := ⟨gb, 0, none⟩) HO.out (fun _ h => h) _) (fun _ h => h) _)⟩ | exact ⟨by repeat (first | (with_reducible first | exact HB.out | apply below_alloc | apply pw_below_drewN | apply below_drew1 | refine below_set ?_ GW.out) | exact HB.out)⟩
              replace cL := Bool.eq_false_iff.mpr cL
              subst cL
              rw [if_neg (by decide)] at A
              obtain ⟨bD, AD, A⟩ := Option.bind_eq_some_iff.mp A
              have AD := Aside0.mk AD
              by_cases cD : bD = true
              · subst cD
                rw [if_pos rfl] at A
                obtain ⟨⟨q1, q2, q3, q4⟩, AN, A⟩ := Option.bind_eq_some_iff.mp A
                have AN := Aside0.mk AN
                dsimp only at A
                by_cases cq : q4 = 0
                · rw [if_pos cq] at A
                  have cqb0 : (q4 == 0) = true := beq_iff_eq.mpr cq
                  have cqb1 : (q4 != 0) = false := bne_eq_false_iff_eq.mpr cq
                  clear cq
                  obtain rfl := Option.some.inj A
                  clear A
                  obtain ⟨HL, HN⟩ := ite_some HH.out
                  have HN := Aside0.mk HN
                  have HL := Aside0.mk HL
                  clear HH
                  go_wp2_with (first | (go_at_call 39; (with_reducible refine (token_letter.calls (bt a0 x5) false _ AL.out).mono ?_); rintro e w' ⟨rfl, ⟨nd, rfl⟩⟩) | (go_at_call 41; (with_reducible refine (token_digit.calls (bt a0 x5) true _ AD.out).mono ?_); rintro e w' ⟨rfl, ⟨nd3, rfl⟩⟩) | (go_at_call 42; (with_reducible refine (token_number.calls k1 a0 x5 q1 q2 q3 q4 _ AN.out).mono ?_); rintro e w' ⟨rfl, ⟨nd4, rfl⟩⟩))
                  all_goals (go_step3; (try simp only [Exit.inBlock, Exit.then]); refine jump_goto (hJ' _ _ ?_); (repeat apply Exists.intro); refine ⟨HN, ⟨Nat.le_refl _⟩, ?_, ?_, ?_, GW, HL, rfl⟩)
                  all_goals first | exact ⟨by (with_reducible repeat (first | refine blk_drewN ?_ _ | refine blk_drew ?_ | refine blk_alloc ?_ _)); exact (blk_set (blk_set BK.out 0 (.int .u8 2)) 2 (.int .i64 q1))⟩ | exact ⟨by (with_reducible repeat (first | apply Kd.R_alloc | apply Kd.R_drewN | apply Kd.R_drew)); exact (Kd.R_far (p := ⟨gb, 2, none⟩) (Kd.R_far (p := ⟨gb, 0, none⟩) HO.out (fun _ h => h) _) (fun _ h => h) _)⟩ | exact ⟨by repeat (first | (with_reducible first | exact HB.out | apply below_alloc | apply pw_below_drewN | apply below_drew1 | refine below_set ?_ GW.out) | exact HB.out)⟩
                · rw [if_neg cq] at A
                  have cqb0 : (q4 == 0) = false := beq_eq_false_iff_ne.mpr cq
                  have cqb1 : (q4 != 0) = true := bne_iff_ne.mpr cq
                  clear cq
                  obtain rfl := Option.some.inj A
                  clear A
                  have H := HH.out
                  clear HH
                  simp only [Option.some.injEq, Prod.mk.injEq] at H
                  obtain ⟨rfl, rfl, rfl⟩ := H
                  go_wp2_with (first | (go_at_call 39; (with_reducible refine (token_letter.calls (bt a0 x5) false _ AL.out).mono ?_); rintro e w' ⟨rfl, ⟨nd, rfl⟩⟩) | (go_at_call 41; (with_reducible refine (token_digit.calls (bt a0 x5) true _ AD.out).mono ?_); rintro e w' ⟨rfl, ⟨nd3, rfl⟩⟩) | (go_at_call 42; (with_reducible refine (token_number.calls k1 a0 x5 q1 q2 q3 q4 _ AN.out).mono ?_); rintro e w' ⟨rfl, ⟨nd4, rfl⟩⟩))
                  (try simp only [jump_ret, Exit.inBlock, Exit.then, Exit.noGoto_ret])
                  go_ret3
                  exact ⟨_, (by first | rfl | (simp; done) | (simp [*]; done)), Kd.R_nil _ _ _ _ _, by repeat (first | (with_reducible first | exact HB.out | apply below_alloc | apply pw_below_drewN | apply below_drew1 | refine below_set ?_ GW.out) | exact HB.out)⟩
              replace cD := Bool.eq_false_iff.mpr cD
              subst cD
              rw [if_neg (by decide)] at A
              by_cases c34 : bt a0 x5 = 34
              · rw [if_pos c34] at A
                have c34b0 : ((bt a0 x5) == 34) = true := beq_iff_eq.mpr c34
                have c34b1 : ((bt a0 x5) != 34) = false := bne_eq_false_iff_eq.mpr c34
                clear c34
                obtain ⟨⟨q1, q2, q3, q4⟩, AT, A⟩ := Option.bind_eq_some_iff.mp A
                have AT := Aside0.mk AT
                dsimp only at A
                by_cases cq : q4 = 0
                · rw [if_pos cq] at A
                  have cqb0 : (q4 == 0) = true := beq_iff_eq.mpr cq
                  have cqb1 : (q4 != 0) = false := bne_eq_false_iff_eq.mpr cq
                  clear cq
                  obtain rfl := Option.some.inj A
                  clear A
                  obtain ⟨HL, HN⟩ := ite_some HH.out
                  have HN := Aside0.mk HN
                  have HL := Aside0.mk HL
                  clear HH
                  go_wp2_with (first | (go_at_call 39; (with_reducible refine (token_letter.calls (bt a0 x5) false _ AL.out).mono ?_); rintro e w' ⟨rfl, ⟨nd, rfl⟩⟩) | (go_at_call 41; (with_reducible refine (token_digit.calls (bt a0 x5) false _ AD.out).mono ?_); rintro e w' ⟨rfl, ⟨nd3, rfl⟩⟩) | (go_at_call 43; (with_reducible refine (token_text.calls k1 a0 x5 q1 q2 q3 q4 _ AT.out).mono ?_); rintro e wT ⟨rfl, hb⟩; have n0 := Aside0.mk (Kd.R_below (by (with_reducible repeat (first | apply Kd.R_alloc | apply Kd.R_drewN | apply Kd.R_drew)); exact Kd.R_far (p := ⟨gb, 0, none⟩) HO.out (fun _ h => h) _) hb); have n1 := Aside0.mk (below_step (by repeat (first | (with_reducible first | exact HB.out | apply below_alloc | apply pw_below_drewN | apply below_drew1 | refine below_set ?_ GW.out) | exact HB.out)) hb); have n2 := Aside0.mk (blk_below (g := gb) (o := .cells #[.int .u8 3, .string ⟨#[]⟩, .int .i64 0, .int .i64 x5] 33 (0, 0)) (by (with_reducible repeat (first | refine blk_drewN ?_ _ | refine blk_drew ?_ | refine blk_alloc ?_ _)); exact blk_set BK.out 0 _) hb); clear HO HB BK hb; have HO := n0; have HB := n1; have BK := n2; clear n0 n1 n2; have hct1 : wT.cell? ⟨gb, 1, none⟩ = some (.string (⟨#[]⟩ : ByteArray)) := (blk_cell BK.out 1).trans rfl; have hft1 := blk_frozen BK.out 1))
                  all_goals (go_step3; (try simp only [Exit.inBlock, Exit.then]); refine jump_goto (hJ' _ _ ?_); (repeat apply Exists.intro); refine ⟨HN, ⟨Nat.le_refl _⟩, ?_, ?_, ?_, GW, HL, rfl⟩)
                  all_goals first | exact ⟨by (with_reducible repeat (first | refine blk_drewN ?_ _ | refine blk_drew ?_ | refine blk_alloc ?_ _)); exact (blk_set BK.out 1 (.string q1))⟩ | exact ⟨by (with_reducible repeat (first | apply Kd.R_alloc | apply Kd.R_drewN | apply Kd.R_drew)); exact (Kd.R_far (p := ⟨gb, 1, none⟩) HO.out (fun _ h => h) _)⟩ | exact ⟨by repeat (first | (with_reducible first | exact HB.out | apply below_alloc | apply pw_below_drewN | apply below_drew1 | refine below_set ?_ GW.out) | exact HB.out)⟩
                · rw [if_neg cq] at A
                  have cqb0 : (q4 == 0) = false := beq_eq_false_iff_ne.mpr cq
                  have cqb1 : (q4 != 0) = true := bne_iff_ne.mpr cq
                  clear cq
                  obtain rfl := Option.some.inj A
                  clear A
                  have H := HH.out
                  clear HH
                  simp only [Option.some.injEq, Prod.mk.injEq] at H
                  obtain ⟨rfl, rfl, rfl⟩ := H
                  go_wp2_with (first | (go_at_call 39; (with_reducible refine (token_letter.calls (bt a0 x5) false _ AL.out).mono ?_); rintro e w' ⟨rfl, ⟨nd, rfl⟩⟩) | (go_at_call 41; (with_reducible refine (token_digit.calls (bt a0 x5) false _ AD.out).mono ?_); rintro e w' ⟨rfl, ⟨nd3, rfl⟩⟩) | (go_at_call 43; (with_reducible refine (token_text.calls k1 a0 x5 q1 q2 q3 q4 _ AT.out).mono ?_); rintro e wT ⟨rfl, hb⟩; have n0 := Aside0.mk (Kd.R_below (by (with_reducible repeat (first | apply Kd.R_alloc | apply Kd.R_drewN | apply Kd.R_drew)); exact Kd.R_far (p := ⟨gb, 0, none⟩) HO.out (fun _ h => h) _) hb); have n1 := Aside0.mk (below_step (by repeat (first | (with_reducible first | exact HB.out | apply below_alloc | apply pw_below_drewN | apply below_drew1 | refine below_set ?_ GW.out) | exact HB.out)) hb); have n2 := Aside0.mk (blk_below (g := gb) (o := .cells #[.int .u8 3, .string ⟨#[]⟩, .int .i64 0, .int .i64 x5] 33 (0, 0)) (by (with_reducible repeat (first | refine blk_drewN ?_ _ | refine blk_drew ?_ | refine blk_alloc ?_ _)); exact blk_set BK.out 0 _) hb); clear HO HB BK hb; have HO := n0; have HB := n1; have BK := n2; clear n0 n1 n2; have hct1 : wT.cell? ⟨gb, 1, none⟩ = some (.string (⟨#[]⟩ : ByteArray)) := (blk_cell BK.out 1).trans rfl; have hft1 := blk_frozen BK.out 1))
                  (try simp only [jump_ret, Exit.inBlock, Exit.then, Exit.noGoto_ret])
                  go_ret3
                  exact ⟨_, (by first | rfl | (simp; done) | (simp [*]; done)), Kd.R_nil _ _ _ _ _, by repeat (first | (with_reducible first | exact HB.out | apply below_alloc | apply pw_below_drewN | apply below_drew1 | refine below_set ?_ GW.out) | exact HB.out)⟩
              rw [if_neg c34] at A
              have c34b0 : ((bt a0 x5) == 34) = false := beq_eq_false_iff_ne.mpr c34
              have c34b1 : ((bt a0 x5) != 34) = true := bne_iff_ne.mpr c34
              clear c34
              by_cases c33 : bt a0 x5 = 33
              · rw [if_pos c33] at A
                have c33b0 : ((bt a0 x5) == 33) = true := beq_iff_eq.mpr c33
                have c33b1 : ((bt a0 x5) != 33) = false := bne_eq_false_iff_eq.mpr c33
                clear c33
                by_cases cZ : wrap64 (x5 + 1) = (a0.size : Int)
                · rw [if_pos cZ] at A
                  have cZb0 : (wrap64 (x5 + 1) == (a0.size : Int)) = true := beq_iff_eq.mpr cZ
                  have cZb1 : (wrap64 (x5 + 1) != (a0.size : Int)) = false := bne_eq_false_iff_eq.mpr cZ
                  clear cZ
                  obtain rfl := Option.some.inj A
                  clear A
                  have H := HH.out
                  clear HH
                  simp only [Option.some.injEq, Prod.mk.injEq] at H
                  obtain ⟨rfl, rfl, rfl⟩ := H
                  go_wp2_with (first | (go_at_call 39; (with_reducible refine (token_letter.calls (bt a0 x5) false _ AL.out).mono ?_); rintro e w' ⟨rfl, ⟨nd, rfl⟩⟩) | (go_at_call 41; (with_reducible refine (token_digit.calls (bt a0 x5) false _ AD.out).mono ?_); rintro e w' ⟨rfl, ⟨nd3, rfl⟩⟩))
                  (try simp only [jump_ret, Exit.inBlock, Exit.then, Exit.noGoto_ret])
                  go_ret3
                  exact ⟨_, (by first | rfl | (simp; done) | (simp [*]; done)), Kd.R_nil _ _ _ _ _, by repeat (first | (with_reducible first | exact HB.out | apply below_alloc | apply pw_below_drewN | apply below_drew1 | refine below_set ?_ GW.out) | exact HB.out)⟩
                rw [if_neg cZ] at A
                have cZb0 : (wrap64 (x5 + 1) == (a0.size : Int)) = false := beq_eq_false_iff_ne.mpr cZ
                have cZb1 : (wrap64 (x5 + 1) != (a0.size : Int)) = true := bne_iff_ne.mpr cZ
                have HQ := Aside0.mk (show wrap64 (x5 + 1) < (a0.size : Int) by have := HX.out; rw [HE.out] at cZ ⊢; omega)
                clear cZ
                rw [if_pos HQ.out] at A
                have cEb : decide (wrap64 (x5 + 1) < (a0.size : Int)) = true := decide_eq_true HQ.out
                have p6 : (0 ≤ wrap64 (x5 + 1)) = True := eq_true (by have := HX.out; rw [HE.out]; omega)
                have q6 : (wrap64 (x5 + 1) < (a0.size : Int)) = True := eq_true HQ.out
                have hx7 := bt_at a0 (wrap64 (x5 + 1))
                by_cases c61 : bt a0 (wrap64 (x5 + 1)) = 61
                · rw [if_pos c61] at A
                  have c61b0 : ((bt a0 (wrap64 (x5 + 1))) == 61) = true := beq_iff_eq.mpr c61
                  have c61b1 : ((bt a0 (wrap64 (x5 + 1))) != 61) = false := bne_eq_false_iff_eq.mpr c61
                  have H61 := Aside0.mk c61
                  clear c61
                  unfold token_All.sg at A
                  obtain ⟨t, AT, A⟩ := Option.bind_eq_some_iff.mp A
                  have AT := Aside0.mk AT
                  by_cases ct : t < 0
                  · rw [if_pos ct] at A
                    have ctb : decide (t < 0) = true := decide_eq_true ct
                    clear ct
                    obtain rfl := Option.some.inj A
                    clear A
                    have H := HH.out
                    clear HH
                    simp only [Option.some.injEq, Prod.mk.injEq] at H
                    obtain ⟨rfl, rfl, rfl⟩ := H
                    go_wp2_with (first | (go_at_call 39; (with_reducible refine (token_letter.calls (bt a0 x5) false _ AL.out).mono ?_); rintro e w' ⟨rfl, ⟨nd, rfl⟩⟩) | (go_at_call 41; (with_reducible refine (token_digit.calls (bt a0 x5) false _ AD.out).mono ?_); rintro e w' ⟨rfl, ⟨nd3, rfl⟩⟩) | (go_at_call 44; (with_reducible refine (strings_IndexByte.calls (⟨#[40, 41, 123, 125, 91, 93, 44, 61, 60, 43, 45, 42, 47, 37, 33]⟩ : ByteArray) (bt a0 x5) t _ AT.out).mono ?_); rintro e w' ⟨rfl, ⟨nd5, rfl⟩⟩))
                    (try simp only [jump_ret, Exit.inBlock, Exit.then, Exit.noGoto_ret])
                    go_ret3
                    exact ⟨_, (by first | rfl | (simp; done) | (simp [*]; done)), Kd.R_nil _ _ _ _ _, by repeat (first | (with_reducible first | exact HB.out | apply below_alloc | apply pw_below_drewN | apply below_drew1 | refine below_set ?_ GW.out) | exact HB.out)⟩
                  rw [if_neg ct] at A
                  have ctb : decide (t < 0) = false := decide_eq_false ct
                  clear ct
                  obtain ⟨u, AU, A⟩ := Option.bind_eq_some_iff.mp A
                  have AU := Aside0.mk AU
                  by_cases cu : 0 ≤ u
                  · rw [if_pos cu] at A
                    have cub : decide (0 ≤ u) = true := decide_eq_true cu
                    clear cu
                    rw [if_pos HQ.out, if_pos H61.out] at A
                    obtain rfl := Option.some.inj A
                    clear A
                    obtain ⟨HL, HN⟩ := ite_some HH.out
                    have HN := Aside0.mk HN
                    have HL := Aside0.mk HL
                    clear HH
                    have s1 := eq_true HX.out.1
                    have s1b : decide (0 ≤ x5) = true := decide_eq_true HX.out.1
                    have S2 : x5 ≤ wrap64 (wrap64 (x5 + 1) + 1) ∧ wrap64 (wrap64 (x5 + 1) + 1) ≤ (a0.size : Int) := by have := HX.out; have := hsz.out; have := HQ.out; rw [HE.out] at this; rw [HE.out]; unfold wrap64; omega
                    have s2 := eq_true S2.1
                    have s3 := eq_true S2.2
                    have s2b : decide (x5 ≤ wrap64 (wrap64 (x5 + 1) + 1)) = true := decide_eq_true S2.1
                    have s3b : decide (wrap64 (wrap64 (x5 + 1) + 1) ≤ (a0.size : Int)) = true := decide_eq_true S2.2
                    clear S2
                    go_wp2_with (first | (go_at_call 39; (with_reducible refine (token_letter.calls (bt a0 x5) false _ AL.out).mono ?_); rintro e w' ⟨rfl, ⟨nd, rfl⟩⟩) | (go_at_call 41; (with_reducible refine (token_digit.calls (bt a0 x5) false _ AD.out).mono ?_); rintro e w' ⟨rfl, ⟨nd3, rfl⟩⟩) | (go_at_call 44; (with_reducible refine (strings_IndexByte.calls (⟨#[40, 41, 123, 125, 91, 93, 44, 61, 60, 43, 45, 42, 47, 37, 33]⟩ : ByteArray) (bt a0 x5) t _ AT.out).mono ?_); rintro e w' ⟨rfl, ⟨nd5, rfl⟩⟩) | (go_at_call 44; (with_reducible refine (strings_IndexByte.calls (⟨#[61, 60, 33]⟩ : ByteArray) (bt a0 x5) u _ AU.out).mono ?_); rintro e w' ⟨rfl, ⟨nd5, rfl⟩⟩))
                    go_region
                    all_goals go_wp2
                    all_goals (go_step3; go_step; go_step; refine hB _ _ ?_; (repeat apply Exists.intro); refine ⟨HN, ⟨Nat.le_refl _⟩, ?_, ?_, ?_, GW, HL, rfl⟩)
                    all_goals first | exact ⟨by (with_reducible repeat (first | refine blk_drewN ?_ _ | refine blk_drew ?_ | refine blk_alloc ?_ _)); exact (blk_set (blk_set BK.out 0 (.int .u8 4)) 1 (.string _))⟩ | exact ⟨by (with_reducible repeat (first | apply Kd.R_alloc | apply Kd.R_drewN | apply Kd.R_drew)); exact (Kd.R_far (p := ⟨gb, 1, none⟩) (Kd.R_far (p := ⟨gb, 0, none⟩) HO.out (fun _ h => h) _) (fun _ h => h) _)⟩ | exact ⟨by repeat (first | (with_reducible first | exact HB.out | apply below_alloc | apply pw_below_drewN | apply below_drew1 | refine below_set ?_ GW.out) | exact HB.out)⟩
                  · rw [if_neg cu] at A
                    have cub : decide (0 ≤ u) = false := decide_eq_false cu
                    clear cu
                    obtain rfl := Option.some.inj A
                    clear A
                    obtain ⟨HL, HN⟩ := ite_some HH.out
                    have HN := Aside0.mk HN
                    have HL := Aside0.mk HL
                    clear HH
                    have s1 := eq_true HX.out.1
                    have s1b : decide (0 ≤ x5) = true := decide_eq_true HX.out.1
                    have S2 : x5 ≤ wrap64 (x5 + 1) ∧ wrap64 (x5 + 1) ≤ (a0.size : Int) := by have := HX.out; rw [HE.out]; omega
                    have s2 := eq_true S2.1
                    have s3 := eq_true S2.2
                    have s2b : decide (x5 ≤ wrap64 (x5 + 1)) = true := decide_eq_true S2.1
                    have s3b : decide (wrap64 (x5 + 1) ≤ (a0.size : Int)) = true := decide_eq_true S2.2
                    clear S2
                    go_wp2_with (first | (go_at_call 39; (with_reducible refine (token_letter.calls (bt a0 x5) false _ AL.out).mono ?_); rintro e w' ⟨rfl, ⟨nd, rfl⟩⟩) | (go_at_call 41; (with_reducible refine (token_digit.calls (bt a0 x5) false _ AD.out).mono ?_); rintro e w' ⟨rfl, ⟨nd3, rfl⟩⟩) | (go_at_call 44; (with_reducible refine (strings_IndexByte.calls (⟨#[40, 41, 123, 125, 91, 93, 44, 61, 60, 43, 45, 42, 47, 37, 33]⟩ : ByteArray) (bt a0 x5) t _ AT.out).mono ?_); rintro e w' ⟨rfl, ⟨nd5, rfl⟩⟩) | (go_at_call 44; (with_reducible refine (strings_IndexByte.calls (⟨#[61, 60, 33]⟩ : ByteArray) (bt a0 x5) u _ AU.out).mono ?_); rintro e w' ⟨rfl, ⟨nd5, rfl⟩⟩))
                    go_region
                    all_goals go_wp2
                    all_goals (go_step3; go_step; go_step; refine hB _ _ ?_; (repeat apply Exists.intro); refine ⟨HN, ⟨Nat.le_refl _⟩, ?_, ?_, ?_, GW, HL, rfl⟩)
                    all_goals first | exact ⟨by (with_reducible repeat (first | refine blk_drewN ?_ _ | refine blk_drew ?_ | refine blk_alloc ?_ _)); exact (blk_set (blk_set BK.out 0 (.int .u8 4)) 1 (.string _))⟩ | exact ⟨by (with_reducible repeat (first | apply Kd.R_alloc | apply Kd.R_drewN | apply Kd.R_drew)); exact (Kd.R_far (p := ⟨gb, 1, none⟩) (Kd.R_far (p := ⟨gb, 0, none⟩) HO.out (fun _ h => h) _) (fun _ h => h) _)⟩ | exact ⟨by repeat (first | (with_reducible first | exact HB.out | apply below_alloc | apply pw_below_drewN | apply below_drew1 | refine below_set ?_ GW.out) | exact HB.out)⟩
                · rw [if_neg c61] at A
                  have c61b0 : ((bt a0 (wrap64 (x5 + 1))) == 61) = false := beq_eq_false_iff_ne.mpr c61
                  have c61b1 : ((bt a0 (wrap64 (x5 + 1))) != 61) = true := bne_iff_ne.mpr c61
                  clear c61
                  obtain rfl := Option.some.inj A
                  clear A
                  have H := HH.out
                  clear HH
                  simp only [Option.some.injEq, Prod.mk.injEq] at H
                  obtain ⟨rfl, rfl, rfl⟩ := H
                  go_wp2_with (first | (go_at_call 39; (with_reducible refine (token_letter.calls (bt a0 x5) false _ AL.out).mono ?_); rintro e w' ⟨rfl, ⟨nd, rfl⟩⟩) | (go_at_call 41; (with_reducible refine (token_digit.calls (bt a0 x5) false _ AD.out).mono ?_); rintro e w' ⟨rfl, ⟨nd3, rfl⟩⟩))
                  (try simp only [jump_ret, Exit.inBlock, Exit.then, Exit.noGoto_ret])
                  go_ret3
                  exact ⟨_, (by first | rfl | (simp; done) | (simp [*]; done)), Kd.R_nil _ _ _ _ _, by repeat (first | (with_reducible first | exact HB.out | apply below_alloc | apply pw_below_drewN | apply below_drew1 | refine below_set ?_ GW.out) | exact HB.out)⟩
              rw [if_neg c33] at A
              have c33b0 : ((bt a0 x5) == 33) = false := beq_eq_false_iff_ne.mpr c33
              have c33b1 : ((bt a0 x5) != 33) = true := bne_iff_ne.mpr c33
              clear c33
              unfold token_All.sg at A
              obtain ⟨t, AT, A⟩ := Option.bind_eq_some_iff.mp A
              have AT := Aside0.mk AT
              by_cases ct : t < 0
              · rw [if_pos ct] at A
                have ctb : decide (t < 0) = true := decide_eq_true ct
                clear ct
                obtain rfl := Option.some.inj A
                clear A
                have H := HH.out
                clear HH
                simp only [Option.some.injEq, Prod.mk.injEq] at H
                obtain ⟨rfl, rfl, rfl⟩ := H
                go_wp2_with (first | (go_at_call 39; (with_reducible refine (token_letter.calls (bt a0 x5) false _ AL.out).mono ?_); rintro e w' ⟨rfl, ⟨nd, rfl⟩⟩) | (go_at_call 41; (with_reducible refine (token_digit.calls (bt a0 x5) false _ AD.out).mono ?_); rintro e w' ⟨rfl, ⟨nd3, rfl⟩⟩) | (go_at_call 44; (with_reducible refine (strings_IndexByte.calls (⟨#[40, 41, 123, 125, 91, 93, 44, 61, 60, 43, 45, 42, 47, 37, 33]⟩ : ByteArray) (bt a0 x5) t _ AT.out).mono ?_); rintro e w' ⟨rfl, ⟨nd5, rfl⟩⟩))
                (try simp only [jump_ret, Exit.inBlock, Exit.then, Exit.noGoto_ret])
                go_ret3
                exact ⟨_, (by first | rfl | (simp; done) | (simp [*]; done)), Kd.R_nil _ _ _ _ _, by repeat (first | (with_reducible first | exact HB.out | apply below_alloc | apply pw_below_drewN | apply below_drew1 | refine below_set ?_ GW.out) | exact HB.out)⟩
              rw [if_neg ct] at A
              have ctb : decide (t < 0) = false := decide_eq_false ct
              clear ct
              obtain ⟨u, AU, A⟩ := Option.bind_eq_some_iff.mp A
              have AU := Aside0.mk AU
              by_cases cu : 0 ≤ u
              · rw [if_pos cu] at A
                have cub : decide (0 ≤ u) = true := decide_eq_true cu
                clear cu
                by_cases cE : wrap64 (x5 + 1) < (a0.size : Int)
                · rw [if_pos cE] at A
                  have cEb : decide (wrap64 (x5 + 1) < (a0.size : Int)) = true := decide_eq_true cE
                  have HQ := Aside0.mk cE
                  clear cE
                  have p6 : (0 ≤ wrap64 (x5 + 1)) = True := eq_true (by have := HX.out; rw [HE.out]; omega)
                  have q6 : (wrap64 (x5 + 1) < (a0.size : Int)) = True := eq_true HQ.out
                  have hx7 := bt_at a0 (wrap64 (x5 + 1))
                  by_cases c61 : bt a0 (wrap64 (x5 + 1)) = 61
                  · rw [if_pos c61] at A
                    have c61b0 : ((bt a0 (wrap64 (x5 + 1))) == 61) = true := beq_iff_eq.mpr c61
                    have c61b1 : ((bt a0 (wrap64 (x5 + 1))) != 61) = false := bne_eq_false_iff_eq.mpr c61
                    clear c61
                    obtain rfl := Option.some.inj A
                    clear A
                    obtain ⟨HL, HN⟩ := ite_some HH.out
                    have HN := Aside0.mk HN
                    have HL := Aside0.mk HL
                    clear HH
                    have s1 := eq_true HX.out.1
                    have s1b : decide (0 ≤ x5) = true := decide_eq_true HX.out.1
                    have S2 : x5 ≤ wrap64 (wrap64 (x5 + 1) + 1) ∧ wrap64 (wrap64 (x5 + 1) + 1) ≤ (a0.size : Int) := by have := HX.out; have := hsz.out; have := HQ.out; rw [HE.out] at this; rw [HE.out]; unfold wrap64; omega
                    have s2 := eq_true S2.1
                    have s3 := eq_true S2.2
                    have s2b : decide (x5 ≤ wrap64 (wrap64 (x5 + 1) + 1)) = true := decide_eq_true S2.1
                    have s3b : decide (wrap64 (wrap64 (x5 + 1) + 1) ≤ (a0.size : Int)) = true := decide_eq_true S2.2
                    clear S2
                    go_wp2_with (first | (go_at_call 39; (with_reducible refine (token_letter.calls (bt a0 x5) false _ AL.out).mono ?_); rintro e w' ⟨rfl, ⟨nd, rfl⟩⟩) | (go_at_call 41; (with_reducible refine (token_digit.calls (bt a0 x5) false _ AD.out).mono ?_); rintro e w' ⟨rfl, ⟨nd3, rfl⟩⟩) | (go_at_call 44; (with_reducible refine (strings_IndexByte.calls (⟨#[40, 41, 123, 125, 91, 93, 44, 61, 60, 43, 45, 42, 47, 37, 33]⟩ : ByteArray) (bt a0 x5) t _ AT.out).mono ?_); rintro e w' ⟨rfl, ⟨nd5, rfl⟩⟩) | (go_at_call 44; (with_reducible refine (strings_IndexByte.calls (⟨#[61, 60, 33]⟩ : ByteArray) (bt a0 x5) u _ AU.out).mono ?_); rintro e w' ⟨rfl, ⟨nd5, rfl⟩⟩))
                    go_region
                    all_goals go_wp2
                    all_goals (go_step3; go_step; go_step; refine hB _ _ ?_; (repeat apply Exists.intro); refine ⟨HN, ⟨Nat.le_refl _⟩, ?_, ?_, ?_, GW, HL, rfl⟩)
                    all_goals first | exact ⟨by (with_reducible repeat (first | refine blk_drewN ?_ _ | refine blk_drew ?_ | refine blk_alloc ?_ _)); exact (blk_set (blk_set BK.out 0 (.int .u8 4)) 1 (.string _))⟩ | exact ⟨by (with_reducible repeat (first | apply Kd.R_alloc | apply Kd.R_drewN | apply Kd.R_drew)); exact (Kd.R_far (p := ⟨gb, 1, none⟩) (Kd.R_far (p := ⟨gb, 0, none⟩) HO.out (fun _ h => h) _) (fun _ h => h) _)⟩ | exact ⟨by repeat (first | (with_reducible first | exact HB.out | apply below_alloc | apply pw_below_drewN | apply below_drew1 | refine below_set ?_ GW.out) | exact HB.out)⟩
                  · rw [if_neg c61] at A
                    have c61b0 : ((bt a0 (wrap64 (x5 + 1))) == 61) = false := beq_eq_false_iff_ne.mpr c61
                    have c61b1 : ((bt a0 (wrap64 (x5 + 1))) != 61) = true := bne_iff_ne.mpr c61
                    clear c61
                    obtain rfl := Option.some.inj A
                    clear A
                    obtain ⟨HL, HN⟩ := ite_some HH.out
                    have HN := Aside0.mk HN
                    have HL := Aside0.mk HL
                    clear HH
                    have s1 := eq_true HX.out.1
                    have s1b : decide (0 ≤ x5) = true := decide_eq_true HX.out.1
                    have S2 : x5 ≤ wrap64 (x5 + 1) ∧ wrap64 (x5 + 1) ≤ (a0.size : Int) := by have := HX.out; rw [HE.out]; omega
                    have s2 := eq_true S2.1
                    have s3 := eq_true S2.2
                    have s2b : decide (x5 ≤ wrap64 (x5 + 1)) = true := decide_eq_true S2.1
                    have s3b : decide (wrap64 (x5 + 1) ≤ (a0.size : Int)) = true := decide_eq_true S2.2
                    clear S2
                    go_wp2_with (first | (go_at_call 39; (with_reducible refine (token_letter.calls (bt a0 x5) false _ AL.out).mono ?_); rintro e w' ⟨rfl, ⟨nd, rfl⟩⟩) | (go_at_call 41; (with_reducible refine (token_digit.calls (bt a0 x5) false _ AD.out).mono ?_); rintro e w' ⟨rfl, ⟨nd3, rfl⟩⟩) | (go_at_call 44; (with_reducible refine (strings_IndexByte.calls (⟨#[40, 41, 123, 125, 91, 93, 44, 61, 60, 43, 45, 42, 47, 37, 33]⟩ : ByteArray) (bt a0 x5) t _ AT.out).mono ?_); rintro e w' ⟨rfl, ⟨nd5, rfl⟩⟩) | (go_at_call 44; (with_reducible refine (strings_IndexByte.calls (⟨#[61, 60, 33]⟩ : ByteArray) (bt a0 x5) u _ AU.out).mono ?_); rintro e w' ⟨rfl, ⟨nd5, rfl⟩⟩))
                    go_region
                    all_goals go_wp2
                    all_goals (go_step3; go_step; go_step; refine hB _ _ ?_; (repeat apply Exists.intro); refine ⟨HN, ⟨Nat.le_refl _⟩, ?_, ?_, ?_, GW, HL, rfl⟩)
                    all_goals first | exact ⟨by (with_reducible repeat (first | refine blk_drewN ?_ _ | refine blk_drew ?_ | refine blk_alloc ?_ _)); exact (blk_set (blk_set BK.out 0 (.int .u8 4)) 1 (.string _))⟩ | exact ⟨by (with_reducible repeat (first | apply Kd.R_alloc | apply Kd.R_drewN | apply Kd.R_drew)); exact (Kd.R_far (p := ⟨gb, 1, none⟩) (Kd.R_far (p := ⟨gb, 0, none⟩) HO.out (fun _ h => h) _) (fun _ h => h) _)⟩ | exact ⟨by repeat (first | (with_reducible first | exact HB.out | apply below_alloc | apply pw_below_drewN | apply below_drew1 | refine below_set ?_ GW.out) | exact HB.out)⟩
                · rw [if_neg cE] at A
                  have cEb : decide (wrap64 (x5 + 1) < (a0.size : Int)) = false := decide_eq_false cE
                  clear cE
                  obtain rfl := Option.some.inj A
                  clear A
                  obtain ⟨HL, HN⟩ := ite_some HH.out
                  have HN := Aside0.mk HN
                  have HL := Aside0.mk HL
                  clear HH
                  have s1 := eq_true HX.out.1
                  have s1b : decide (0 ≤ x5) = true := decide_eq_true HX.out.1
                  have S2 : x5 ≤ wrap64 (x5 + 1) ∧ wrap64 (x5 + 1) ≤ (a0.size : Int) := by have := HX.out; rw [HE.out]; omega
                  have s2 := eq_true S2.1
                  have s3 := eq_true S2.2
                  have s2b : decide (x5 ≤ wrap64 (x5 + 1)) = true := decide_eq_true S2.1
                  have s3b : decide (wrap64 (x5 + 1) ≤ (a0.size : Int)) = true := decide_eq_true S2.2
                  clear S2
                  go_wp2_with (first | (go_at_call 39; (with_reducible refine (token_letter.calls (bt a0 x5) false _ AL.out).mono ?_); rintro e w' ⟨rfl, ⟨nd, rfl⟩⟩) | (go_at_call 41; (with_reducible refine (token_digit.calls (bt a0 x5) false _ AD.out).mono ?_); rintro e w' ⟨rfl, ⟨nd3, rfl⟩⟩) | (go_at_call 44; (with_reducible refine (strings_IndexByte.calls (⟨#[40, 41, 123, 125, 91, 93, 44, 61, 60, 43, 45, 42, 47, 37, 33]⟩ : ByteArray) (bt a0 x5) t _ AT.out).mono ?_); rintro e w' ⟨rfl, ⟨nd5, rfl⟩⟩) | (go_at_call 44; (with_reducible refine (strings_IndexByte.calls (⟨#[61, 60, 33]⟩ : ByteArray) (bt a0 x5) u _ AU.out).mono ?_); rintro e w' ⟨rfl, ⟨nd5, rfl⟩⟩))
                  go_region
                  all_goals go_wp2
                  all_goals (go_step3; go_step; go_step; refine hB _ _ ?_; (repeat apply Exists.intro); refine ⟨HN, ⟨Nat.le_refl _⟩, ?_, ?_, ?_, GW, HL, rfl⟩)
                  all_goals first | exact ⟨by (with_reducible repeat (first | refine blk_drewN ?_ _ | refine blk_drew ?_ | refine blk_alloc ?_ _)); exact (blk_set (blk_set BK.out 0 (.int .u8 4)) 1 (.string _))⟩ | exact ⟨by (with_reducible repeat (first | apply Kd.R_alloc | apply Kd.R_drewN | apply Kd.R_drew)); exact (Kd.R_far (p := ⟨gb, 1, none⟩) (Kd.R_far (p := ⟨gb, 0, none⟩) HO.out (fun _ h => h) _) (fun _ h => h) _)⟩ | exact ⟨by repeat (first | (with_reducible first | exact HB.out | apply below_alloc | apply pw_below_drewN | apply below_drew1 | refine below_set ?_ GW.out) | exact HB.out)⟩
              · rw [if_neg cu] at A
                have cub : decide (0 ≤ u) = false := decide_eq_false cu
                clear cu
                obtain rfl := Option.some.inj A
                clear A
                obtain ⟨HL, HN⟩ := ite_some HH.out
                have HN := Aside0.mk HN
                have HL := Aside0.mk HL
                clear HH
                have s1 := eq_true HX.out.1
                have s1b : decide (0 ≤ x5) = true := decide_eq_true HX.out.1
                have S2 : x5 ≤ wrap64 (x5 + 1) ∧ wrap64 (x5 + 1) ≤ (a0.size : Int) := by have := HX.out; rw [HE.out]; omega
                have s2 := eq_true S2.1
                have s3 := eq_true S2.2
                have s2b : decide (x5 ≤ wrap64 (x5 + 1)) = true := decide_eq_true S2.1
                have s3b : decide (wrap64 (x5 + 1) ≤ (a0.size : Int)) = true := decide_eq_true S2.2
                clear S2
                go_wp2_with (first | (go_at_call 39; (with_reducible refine (token_letter.calls (bt a0 x5) false _ AL.out).mono ?_); rintro e w' ⟨rfl, ⟨nd, rfl⟩⟩) | (go_at_call 41; (with_reducible refine (token_digit.calls (bt a0 x5) false _ AD.out).mono ?_); rintro e w' ⟨rfl, ⟨nd3, rfl⟩⟩) | (go_at_call 44; (with_reducible refine (strings_IndexByte.calls (⟨#[40, 41, 123, 125, 91, 93, 44, 61, 60, 43, 45, 42, 47, 37, 33]⟩ : ByteArray) (bt a0 x5) t _ AT.out).mono ?_); rintro e w' ⟨rfl, ⟨nd5, rfl⟩⟩) | (go_at_call 44; (with_reducible refine (strings_IndexByte.calls (⟨#[61, 60, 33]⟩ : ByteArray) (bt a0 x5) u _ AU.out).mono ?_); rintro e w' ⟨rfl, ⟨nd5, rfl⟩⟩))
                go_region
                all_goals go_wp2
                all_goals (go_step3; go_step; go_step; refine hB _ _ ?_; (repeat apply Exists.intro); refine ⟨HN, ⟨Nat.le_refl _⟩, ?_, ?_, ?_, GW, HL, rfl⟩)
                all_goals first | exact ⟨by (with_reducible repeat (first | refine blk_drewN ?_ _ | refine blk_drew ?_ | refine blk_alloc ?_ _)); exact (blk_set (blk_set BK.out 0 (.int .u8 4)) 1 (.string _))⟩ | exact ⟨by (with_reducible repeat (first | apply Kd.R_alloc | apply Kd.R_drewN | apply Kd.R_drew)); exact (Kd.R_far (p := ⟨gb, 1, none⟩) (Kd.R_far (p := ⟨gb, 0, none⟩) HO.out (fun _ h => h) _) (fun _ h => h) _)⟩ | exact ⟨by repeat (first | (with_reducible first | exact HB.out | apply below_alloc | apply pw_below_drewN | apply below_drew1 | refine below_set ?_ GW.out) | exact HB.out)⟩
          · rw [if_neg c5] at H
            exact absurd H (by simp)
        · rw [if_neg c4] at H
          have c4b0 : decide (x5 < (a0.size : Int)) = false := decide_eq_false c4
          clear c4
          simp only [Option.some.injEq, Prod.mk.injEq] at H
          obtain ⟨rfl, rfl, rfl⟩ := H
          go_wp2
          (try rw [Exit.noGoto_ret])
          go_ret3
          exact ⟨_, rfl, by (with_reducible repeat (first | apply Kd.R_alloc | apply Kd.R_drewN | apply Kd.R_drew)); exact HO.out, by repeat (first | (with_reducible first | exact HB.out | apply below_alloc | apply pw_below_drewN | apply below_drew1) | exact HB.out)⟩
end Go.Proofs.Ytlbchdalimngjaa.P
