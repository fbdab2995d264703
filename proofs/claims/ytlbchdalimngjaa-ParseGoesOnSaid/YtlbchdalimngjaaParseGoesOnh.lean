/- Parts of a proof, joined by a program: Proved here: the statement prompterlaw09.ParseGoesOn holds for every input that the row speaks of (no condition of mine). -/
import Derived.WalkMore
import Derived.ScopeJumps
import Derived.KernelRfl
import Derived.Test.YtlbchdalimngjaaParseGoesOng
namespace Go.Proofs.Ytlbchdalimngjaa.P
open Go.RowKit Go.Proofs.YtlbchdalimngjaaW.PrintWords Go.Proofs.YtlbchdalimngjaaW.PrintLast Go.Proofs.YtlbchdalimngjaaW.PrintMore
attribute [local go_sem] max2_int min2_int max_two min_two max_three min_three max_four min_four
set_option linter.unusedVariables false
set_option linter.unusedSimpArgs false
theorem ite_some {p : Prop} [Decidable p] {α : Type} {c : Option α} {r : α} (h : (if p then c else none) = some r) : p ∧ c = some r := by
  split at h
  · exact ⟨‹_›, h⟩
  · cases h
section
variable {P : Program} {Q : Exit → Act → World → Prop} {a : Act} {w : World}
theorem wp_scope_k {c B : Code} (l : Nat) (J : Act → World → Prop) (hf : findLabel c l = some (.seq .skip B))
    (pass : ∀ a w, J a w → B.wp P (Exit.noGoto Q) a w)
    (first : ∀ J' : Act → World → Prop, (∀ a w, J a w → J' a w) → (∀ a w, J a w → B.wp P (Exit.jump l J' Q) a w) → c.wp P (Exit.jump l J' Q) a w) : (Code.scope c).wp P Q a w := by
  have up : ∀ (J2 : Act → World → Prop) (a : Act) (w : World), J a w → B.wp P (Exit.jump l J2 Q) a w := fun J2 a w h => wp_mono (pass a w h) (by
    intro e a' w' hq
    cases e <;> first | exact hq | exact hq.elim)
  exact wp_scope_jumps l J (fun _ _ => 0) hf (first J (fun _ _ h => h) (up J)) (fun a w h => wp_seq (wp_skip (up _ a w h)))
variable {l : Nat} {J : Act → World → Prop}
theorem jump_normal : Exit.jump l J Q .normal a w = Q .normal a w := rfl
theorem jump_exit (id : Nat) : Exit.jump l J Q (.exit id) a w = Q (.exit id) a w := rfl
theorem jump_ret : Exit.jump l J Q .ret a w = Q .ret a w := rfl
theorem jump_panic (ch : List PanicEntry) : Exit.jump l J Q (.panic ch) a w = Q (.panic ch) a w := rfl
theorem jump_goto (h : J a w) : Exit.jump l J Q (.goto l) a w := ⟨rfl, h⟩
end
attribute [local go_sem] jump_normal jump_exit jump_ret jump_panic
set_option maxHeartbeats 8000000 in
set_option maxRecDepth 100000 in
theorem token_All.calls (k : Nat) (a0 : ByteArray) (r1 : List S33) (r2 : Int) (r3 : Int) (w : World) (h : token_All.f k a0 = some (r1, r2, r3)) :
    Calls Try.prog 21 #[.string a0] w fun e w' => ∃ v0_ : Value, e = .returned (.tuple #[v0_, .int .i64 r2, .int .i64 r3]) ∧ Kd.R k33 33 w' w.heap.size (fun _ => True) v0_ r1 ∧ Below w.heap.size w w' := by
  have hu33 := Try.underlying33
  have HB := Aside0.mk (Below.refl w.heap.size w)
  by_cases c2 : (a0.size : Int) > 16384
  · have H : some (([] : List S33), (0 : Int), (2 : Int)) = some (r1, r2, r3) := by unfold token_All.f at h; rwa [if_pos c2] at h
    clear h
    have c2b0 : decide (16384 < (a0.size : Int)) = true := decide_eq_true c2
    have c2b1 : decide (16384 < a0.size) = true := decide_eq_true (by omega)
    clear c2
    simp only [Option.some.injEq, Prod.mk.injEq] at H
    obtain ⟨rfl, rfl, rfl⟩ := H
    go_enter Try.func21, Try.ntmps21
    go_wp2
    go_step3
    go_wp2
    (try rw [Exit.noGoto_ret])
    go_ret3
    exact ⟨_, rfl, Kd.R_nil _ _ _ _ _, by repeat (first | (with_reducible first | exact HB.out | apply below_alloc | apply pw_below_drewN | apply below_drew1) | exact HB.out)⟩
  · have H : token_All.l0 k a0 [] 0 = some (r1, r2, r3) := by unfold token_All.f at h; rwa [if_neg c2] at h
    clear h
    have c2b0 : decide (16384 < (a0.size : Int)) = false := decide_eq_false c2
    have c2b1 : decide (16384 < a0.size) = false := decide_eq_false (by omega)
    have hsz := Aside0.mk c2
    clear c2
    have H' := Aside0.mk H
    clear H
    go_enter Try.func21, Try.ntmps21
    go_wp2
    go_step3
    go_wp2
    go_step3
    go_wp2
    go_loopg [2, 5] k (fun kq v2 v5 w' => ∃ (x2 : List S33) (x5 : Int), v5 = .int .i64 x5 ∧ Aside0 (token_All.l0 kq a0 x2 x5 = some (r1, r2, r3)) ∧ Aside0 (kq ≤ k) ∧ Aside0 (Kd.R k33 33 w' w.heap.size (fun _ => True) v2 x2) ∧ Aside0 (Below w.heap.size w w'))
    case atStart => exact ⟨[], 0, rfl, H', ⟨Nat.le_refl _⟩, ⟨Kd.R_nil _ _ _ _ _⟩, ⟨by repeat (first | (with_reducible first | exact HB.out | apply below_alloc | apply pw_below_drewN | apply below_drew1) | exact HB.out)⟩⟩
    case round =>
      clear H'
      try clear c2b0
      try clear c2b1
      obtain ⟨x2, x5, rfl, HA, HK1, HO, HB⟩ := hrel
      cases gk with
      | zero => exact absurd HA.out (by simp [token_All.l0])
      | succ k1 =>
        have H := HA.out
        clear HA
        rw [token_All.l0] at H
        by_cases c4 : x5 < (a0.size : Int)
        · rw [if_pos c4] at H
          have c4b0 : decide (x5 < (a0.size : Int)) = true := decide_eq_true c4
          by_cases c5 : 0 ≤ x5
          · rw [if_pos c5] at H
            have c5b0 : decide (0 ≤ x5) = true := decide_eq_true c5
            obtain ⟨st, A0, H⟩ := Option.bind_eq_some_iff.mp H
            have AS := Aside0.mk A0
            clear A0
            have HH := Aside0.mk H
            clear H
            have p5 := eq_true c5
            have q5 := eq_true c4
            have hx5 := bt_at a0 x5
            clear c4 c5
            go_wp2
            refine wp_scope_k (B := ?B) 1 (fun a' w' => ∃ (x : S33) (en : Int) (kq gb : Nat) (v2 : Value) (y3 y4 y6 y12 y13 y14 y15 y16 y17 y18 y19 y20 y21 y22 y23 y24 y25 y26 y27 y28 y29 y30 y31 y32 y33 y34 y35 y36 y37 y38 y39 y40 y41 y42 y43 y44 y45 y46 y47 y48 y49 y50 y51 y52 y53 y54 y55 y56 y57 y58 y59 y60 y61 y62 y63 y64 y65 y66 y67 y68 y69 y70 y71 y72 y73 y74 y75 y76 y77 y78 y79 y80 y81 y82 y83 y84 y85 y86 y87 y88 y89 y90 y91 y92 y93 y94 y95 y96 y97 y98 y99 y100 y101 y102 y103 y104 y105 y106 y107 y108 y109 y110 y111 y112 y113 y114 y115 y116 y117 y118 y119 y120 y121 y122 y123 y124 y125 y126 y127 y128 y129 y130 y131 y132 y133 y134 y135 y136 y137 y138 y139 y140 y141 y142 y143 y144 y145 y146 y147 y148 y149 y150 y151 y152 y153 y154 y155 y156 y157 y158 y159 : Value), Aside0 (token_All.l0 kq a0 (x2 ++ [x]) en = some (r1, r2, r3)) ∧ Aside0 (kq ≤ k1) ∧ Aside0 (w'.heap[gb]? = some (.cells #[.int .u8 x.f0, .string x.f1, .int .i64 x.f2, .int .i64 x.f3] 33 (0, 0))) ∧ Aside0 (Kd.R k33 33 w' w.heap.size (fun k => k ≠ gb) v2 x2) ∧ Aside0 (Below w.heap.size w w') ∧ Aside0 (w.heap.size ≤ gb) ∧ Aside0 (x2.length < 3518437208883) ∧ a' = { tmps := #[.string a0, undef, v2, y3, y4, .int .i64 x5, y6, .pointer (some ⟨gb, 0, none⟩), .int .i64 en, .string a0, .int .i64 (a0.size : Int), .bool false, y12, y13, y14, y15, y16, y17, y18, y19, y20, y21, y22, y23, y24, y25, y26, y27, y28, y29, y30, y31, y32, y33, y34, y35, y36, y37, y38, y39, y40, y41, y42, y43, y44, y45, y46, y47, y48, y49, y50, y51, y52, y53, y54, y55, y56, y57, y58, y59, y60, y61, y62, y63, y64, y65, y66, y67, y68, y69, y70, y71, y72, y73, y74, y75, y76, y77, y78, y79, y80, y81, y82, y83, y84, y85, y86, y87, y88, y89, y90, y91, y92, y93, y94, y95, y96, y97, y98, y99, y100, y101, y102, y103, y104, y105, y106, y107, y108, y109, y110, y111, y112, y113, y114, y115, y116, y117, y118, y119, y120, y121, y122, y123, y124, y125, y126, y127, y128, y129, y130, y131, y132, y133, y134, y135, y136, y137, y138, y139, y140, y141, y142, y143, y144, y145, y146, y147, y148, y149, y150, y151, y152, y153, y154, y155, y156, y157, y158, y159, undef], defers := [] }) ?hf ?_ ?_
            case hf => simp only [findLabel]; rfl
            · intro a' w' hinv
              obtain ⟨x, hinv⟩ := hinv
              obtain ⟨en, hinv⟩ := hinv
              obtain ⟨kq, hinv⟩ := hinv
              obtain ⟨gb, hinv⟩ := hinv
              obtain ⟨v2, hinv⟩ := hinv
              obtain ⟨y3, hinv⟩ := hinv
              obtain ⟨y4, hinv⟩ := hinv
              obtain ⟨y6, hinv⟩ := hinv
              obtain ⟨y12, hinv⟩ := hinv
              obtain ⟨y13, hinv⟩ := hinv
              obtain ⟨y14, hinv⟩ := hinv
              obtain ⟨y15, hinv⟩ := hinv
              obtain ⟨y16, hinv⟩ := hinv
              obtain ⟨y17, hinv⟩ := hinv
              obtain ⟨y18, hinv⟩ := hinv
              obtain ⟨y19, hinv⟩ := hinv
              obtain ⟨y20, hinv⟩ := hinv
              obtain ⟨y21, hinv⟩ := hinv
              obtain ⟨y22, hinv⟩ := hinv
              obtain ⟨y23, hinv⟩ := hinv
              obtain ⟨y24, hinv⟩ := hinv
              obtain ⟨y25, hinv⟩ := hinv
              obtain ⟨y26, hinv⟩ := hinv
              obtain ⟨y27, hinv⟩ := hinv
              obtain ⟨y28, hinv⟩ := hinv
              obtain ⟨y29, hinv⟩ := hinv
              obtain ⟨y30, hinv⟩ := hinv
              obtain ⟨y31, hinv⟩ := hinv
              obtain ⟨y32, hinv⟩ := hinv
              obtain ⟨y33, hinv⟩ := hinv
              obtain ⟨y34, hinv⟩ := hinv
              obtain ⟨y35, hinv⟩ := hinv
              obtain ⟨y36, hinv⟩ := hinv
              obtain ⟨y37, hinv⟩ := hinv
              obtain ⟨y38, hinv⟩ := hinv
              obtain ⟨y39, hinv⟩ := hinv
              obtain ⟨y40, hinv⟩ := hinv
              obtain ⟨y41, hinv⟩ := hinv
              obtain ⟨y42, hinv⟩ := hinv
              obtain ⟨y43, hinv⟩ := hinv
              obtain ⟨y44, hinv⟩ := hinv
              obtain ⟨y45, hinv⟩ := hinv
              obtain ⟨y46, hinv⟩ := hinv
              obtain ⟨y47, hinv⟩ := hinv
              obtain ⟨y48, hinv⟩ := hinv
              obtain ⟨y49, hinv⟩ := hinv
              obtain ⟨y50, hinv⟩ := hinv
              obtain ⟨y51, hinv⟩ := hinv
              obtain ⟨y52, hinv⟩ := hinv
              obtain ⟨y53, hinv⟩ := hinv
              obtain ⟨y54, hinv⟩ := hinv
              obtain ⟨y55, hinv⟩ := hinv
              obtain ⟨y56, hinv⟩ := hinv
              obtain ⟨y57, hinv⟩ := hinv
              obtain ⟨y58, hinv⟩ := hinv
              obtain ⟨y59, hinv⟩ := hinv
              obtain ⟨y60, hinv⟩ := hinv
              obtain ⟨y61, hinv⟩ := hinv
              obtain ⟨y62, hinv⟩ := hinv
              obtain ⟨y63, hinv⟩ := hinv
              obtain ⟨y64, hinv⟩ := hinv
              obtain ⟨y65, hinv⟩ := hinv
              obtain ⟨y66, hinv⟩ := hinv
              obtain ⟨y67, hinv⟩ := hinv
              obtain ⟨y68, hinv⟩ := hinv
              obtain ⟨y69, hinv⟩ := hinv
              obtain ⟨y70, hinv⟩ := hinv
              obtain ⟨y71, hinv⟩ := hinv
              obtain ⟨y72, hinv⟩ := hinv
              obtain ⟨y73, hinv⟩ := hinv
              obtain ⟨y74, hinv⟩ := hinv
              obtain ⟨y75, hinv⟩ := hinv
              obtain ⟨y76, hinv⟩ := hinv
              obtain ⟨y77, hinv⟩ := hinv
              obtain ⟨y78, hinv⟩ := hinv
              obtain ⟨y79, hinv⟩ := hinv
              obtain ⟨y80, hinv⟩ := hinv
              obtain ⟨y81, hinv⟩ := hinv
              obtain ⟨y82, hinv⟩ := hinv
              obtain ⟨y83, hinv⟩ := hinv
              obtain ⟨y84, hinv⟩ := hinv
              obtain ⟨y85, hinv⟩ := hinv
              obtain ⟨y86, hinv⟩ := hinv
              obtain ⟨y87, hinv⟩ := hinv
              obtain ⟨y88, hinv⟩ := hinv
              obtain ⟨y89, hinv⟩ := hinv
              obtain ⟨y90, hinv⟩ := hinv
              obtain ⟨y91, hinv⟩ := hinv
              obtain ⟨y92, hinv⟩ := hinv
              obtain ⟨y93, hinv⟩ := hinv
              obtain ⟨y94, hinv⟩ := hinv
              obtain ⟨y95, hinv⟩ := hinv
              obtain ⟨y96, hinv⟩ := hinv
              obtain ⟨y97, hinv⟩ := hinv
              obtain ⟨y98, hinv⟩ := hinv
              obtain ⟨y99, hinv⟩ := hinv
              obtain ⟨y100, hinv⟩ := hinv
              obtain ⟨y101, hinv⟩ := hinv
              obtain ⟨y102, hinv⟩ := hinv
              obtain ⟨y103, hinv⟩ := hinv
              obtain ⟨y104, hinv⟩ := hinv
              obtain ⟨y105, hinv⟩ := hinv
              obtain ⟨y106, hinv⟩ := hinv
              obtain ⟨y107, hinv⟩ := hinv
              obtain ⟨y108, hinv⟩ := hinv
              obtain ⟨y109, hinv⟩ := hinv
              obtain ⟨y110, hinv⟩ := hinv
              obtain ⟨y111, hinv⟩ := hinv
              obtain ⟨y112, hinv⟩ := hinv
              obtain ⟨y113, hinv⟩ := hinv
              obtain ⟨y114, hinv⟩ := hinv
              obtain ⟨y115, hinv⟩ := hinv
              obtain ⟨y116, hinv⟩ := hinv
              obtain ⟨y117, hinv⟩ := hinv
              obtain ⟨y118, hinv⟩ := hinv
              obtain ⟨y119, hinv⟩ := hinv
              obtain ⟨y120, hinv⟩ := hinv
              obtain ⟨y121, hinv⟩ := hinv
              obtain ⟨y122, hinv⟩ := hinv
              obtain ⟨y123, hinv⟩ := hinv
              obtain ⟨y124, hinv⟩ := hinv
              obtain ⟨y125, hinv⟩ := hinv
              obtain ⟨y126, hinv⟩ := hinv
              obtain ⟨y127, hinv⟩ := hinv
              obtain ⟨y128, hinv⟩ := hinv
              obtain ⟨y129, hinv⟩ := hinv
              obtain ⟨y130, hinv⟩ := hinv
              obtain ⟨y131, hinv⟩ := hinv
              obtain ⟨y132, hinv⟩ := hinv
              obtain ⟨y133, hinv⟩ := hinv
              obtain ⟨y134, hinv⟩ := hinv
              obtain ⟨y135, hinv⟩ := hinv
              obtain ⟨y136, hinv⟩ := hinv
              obtain ⟨y137, hinv⟩ := hinv
              obtain ⟨y138, hinv⟩ := hinv
              obtain ⟨y139, hinv⟩ := hinv
              obtain ⟨y140, hinv⟩ := hinv
              obtain ⟨y141, hinv⟩ := hinv
              obtain ⟨y142, hinv⟩ := hinv
              obtain ⟨y143, hinv⟩ := hinv
              obtain ⟨y144, hinv⟩ := hinv
              obtain ⟨y145, hinv⟩ := hinv
              obtain ⟨y146, hinv⟩ := hinv
              obtain ⟨y147, hinv⟩ := hinv
              obtain ⟨y148, hinv⟩ := hinv
              obtain ⟨y149, hinv⟩ := hinv
              obtain ⟨y150, hinv⟩ := hinv
              obtain ⟨y151, hinv⟩ := hinv
              obtain ⟨y152, hinv⟩ := hinv
              obtain ⟨y153, hinv⟩ := hinv
              obtain ⟨y154, hinv⟩ := hinv
              obtain ⟨y155, hinv⟩ := hinv
              obtain ⟨y156, hinv⟩ := hinv
              obtain ⟨y157, hinv⟩ := hinv
              obtain ⟨y158, hinv⟩ := hinv
              obtain ⟨y159, hinv⟩ := hinv
              obtain ⟨HN, HKQ, BK, HO, HB, GW, HL, ha⟩ := hinv
              subst ha
              have hcz0 : w'.cell? ⟨gb, 0, none⟩ = some (.int .u8 x.f0) := (blk_cell BK.out 0).trans rfl
              have hcz1 : w'.cell? ⟨gb, 1, none⟩ = some (.string x.f1) := (blk_cell BK.out 1).trans rfl
              have hcz2 : w'.cell? ⟨gb, 2, none⟩ = some (.int .i64 x.f2) := (blk_cell BK.out 2).trans rfl
              have hcz3 : w'.cell? ⟨gb, 3, none⟩ = some (.int .i64 x.f3) := (blk_cell BK.out 3).trans rfl
              go_wp2_with (first | ((with_reducible refine gate_builtin (b := .append) (xs := #[.tmp 155, .tmp 157]) rfl ?_); at_builtin; refine Kd.R_append k33 (w0 := w) w.heap.size rfl (.tmp 155) (.tmp 157) 27 33 (.agg #[(.int .u8 0), (.string ⟨#[]⟩), (.int .i64 0), (.int .i64 0)]) 40 rfl Try.underlying27 info33 rfl (by decide) (by omega) v2 x2 x [.int .u8 x.f0, .string x.f1, .int .i64 x.f2, .int .i64 x.f3] (fun _ => True) (fun _ => False) rfl (by first | (go_simp; done) | (go_simp; rfl)) ?aP (fun _ hk => hk.elim) ?aF ?aO ?aB ?aS ?aL ?_; (case aP => exact k33_mkM _ _ _ x); (case aB => exact HB.out); (case aF => exact (fun _ _ => trivial)); (case aO => exact Kd.R_mono HO.out (fun _ _ => trivial)); (case aS => exact HB.out.size); (case aL => have := HL.out; omega); intro v3 w3 ho hb hg hat; clear HO HB hat hg; have HO := Aside0.mk ho; have HB := Aside0.mk hb; clear ho hb))
              (try simp only [Exit.noGoto_normal, Exit.inBlock, Exit.then])
              (try go_wp2)
              go_roundg kq
              case measure => have := HKQ.out; omega
              case rel => exact ⟨x2 ++ [x], en, rfl, HN, ⟨by have := HKQ.out; have := HK1.out; omega⟩, HO, HB⟩
            · intro J' hJ' hB
              go_upto_region 8 with (first | ((with_reducible refine gate_dst (N := 7) rfl ?_); refine box_event ?hg (N := 7) ?hd (cs := #[.int .u8 0, .string (⟨#[]⟩ : ByteArray), .int .i64 0, .int .i64 0]) (t := 33) ?hr ?_; (case hd => rfl); (case hg => rfl); (case hr => first | (go_simp; done) | (go_simp; rfl)); intro gb hg w1 hbox hb; have n0 := Aside0.mk (Kd.R_below (Kd.R_mono (ok' := fun k => k ≠ gb) (Kd.R_bound (by (with_reducible repeat (first | apply Kd.R_alloc | apply Kd.R_drewN | apply Kd.R_drew)); exact HO.out)) (fun k hk e_ => by rw [hg] at e_; exact absurd hk.2.2.1 (by rw [e_]; exact Nat.lt_irrefl _))) hb); have n1 := Aside0.mk (below_step (by repeat (first | (with_reducible first | exact HB.out | apply below_alloc | apply pw_below_drewN | apply below_drew1) | exact HB.out)) hb); have n2 := Aside0.mk hbox; have n3 := Aside0.mk ((by rw [hg]; exact (below_size (by repeat (first | (with_reducible first | exact HB.out | apply below_alloc | apply pw_below_drewN | apply below_drew1) | exact HB.out)))) : w.heap.size ≤ gb); clear HO HB; have HO := n0; have HB := n1; have BK := n2; have GW := n3; clear n0 n1 n2 n3; clear hb hbox hg; have hcz0 : w1.cell? ⟨gb, 0, none⟩ = some (.int .u8 0) := (blk_cell BK.out 0).trans rfl; have hcz1 : w1.cell? ⟨gb, 1, none⟩ = some (.string (⟨#[]⟩ : ByteArray)) := (blk_cell BK.out 1).trans rfl; have hcz2 : w1.cell? ⟨gb, 2, none⟩ = some (.int .i64 0) := (blk_cell BK.out 2).trans rfl; have hcz3 : w1.cell? ⟨gb, 3, none⟩ = some (.int .i64 0) := (blk_cell BK.out 3).trans rfl; have hfz0 := blk_frozen BK.out 0; have hfz1 := blk_frozen BK.out 1; have hfz2 := blk_frozen BK.out 2; have hfz3 := blk_frozen BK.out 3))
              clear H
              obtain ⟨w2, hw2⟩ : ∃ w2 : World, w2 = ((((w1.setCell ⟨gb, 0, none⟩ (.int .u8 0)).setCell ⟨gb, 1, none⟩ (.string ⟨#[]⟩)).setCell ⟨gb, 2, none⟩ (.int .i64 0)).setCell ⟨gb, 3, none⟩ (.int .i64 x5)) := ⟨_, rfl⟩
              have BK2 : w2.heap[gb]? = some (.cells #[.int .u8 0, .string ⟨#[]⟩, .int .i64 0, .int .i64 x5] 33 (0, 0)) := by rw [hw2]; exact blk_set (blk_set (blk_set (blk_set BK.out 0 _) 1 _) 2 _) 3 _
              have HB2 : Below w.heap.size w w2 := by rw [hw2]; exact below_set (below_set (below_set (below_set HB.out GW.out) GW.out) GW.out) GW.out
              have HO2 : Kd.R k33 33 w2 w.heap.size (fun k => k ≠ gb) u2 x2 := by rw [hw2]; exact (Kd.R_far (p := ⟨gb, 3, none⟩) (Kd.R_far (p := ⟨gb, 2, none⟩) (Kd.R_far (p := ⟨gb, 1, none⟩) (Kd.R_far (p := ⟨gb, 0, none⟩) HO.out (fun _ h => h) _) (fun _ h => h) _) (fun _ h => h) _) (fun _ h => h) _)
              rw [← hw2]
              clear hw2 hcz0 hcz1 hcz2 hcz3 hfz0 hfz1 hfz2 hfz3 HO HB BK
              have BK := Aside0.mk BK2
              have HB := Aside0.mk HB2
              have HO := Aside0.mk HO2
              clear BK2 HB2 HO2 w1
              have hcz0 : w2.cell? ⟨gb, 0, none⟩ = some (.int .u8 0) := (blk_cell BK.out 0).trans rfl
              have hcz1 : w2.cell? ⟨gb, 1, none⟩ = some (.string (⟨#[]⟩ : ByteArray)) := (blk_cell BK.out 1).trans rfl
              have hcz2 : w2.cell? ⟨gb, 2, none⟩ = some (.int .i64 0) := (blk_cell BK.out 2).trans rfl
              have hcz3 : w2.cell? ⟨gb, 3, none⟩ = some (.int .i64 x5) := (blk_cell BK.out 3).trans rfl
              have hfz0 := blk_frozen BK.out 0
              have hfz1 := blk_frozen BK.out 1
              have hfz2 := blk_frozen BK.out 2
              have hfz3 := blk_frozen BK.out 3
              have HX := Aside0.mk (⟨of_eq_true p5, of_eq_true q5⟩ : 0 ≤ x5 ∧ x5 < (a0.size : Int))
              have he1 : wrap64 (x5 + 1) = x5 + 1 := by have := HX.out; have := hsz.out; unfold wrap64; omega
              have HE := Aside0.mk he1
              clear he1
              have A := AS.out
              clear AS
              unfold token_All.one at A
              by_cases c32 : bt a0 x5 = 32
              · rw [if_pos c32] at A
                have c32b0 : ((bt a0 x5) == 32) = true := beq_iff_eq.mpr c32
                have c32b1 : ((bt a0 x5) != 32) = false := bne_eq_false_iff_eq.mpr c32
                clear c32
                obtain rfl := Option.some.inj A
                clear A
                go_wp2
                (try simp only [jump_exit, Exit.inBlock, Exit.then, ↓reduceIte])
                (try go_wp2)
                go_roundg k1
                case measure => omega
                case rel => exact ⟨x2, wrap64 (x5 + 1), (by first | rfl | (simp; done) | (simp [*]; done)), HH, ⟨by have := HK1.out; omega⟩, ⟨Kd.R_mono (by (with_reducible repeat (first | apply Kd.R_alloc | apply Kd.R_drewN | apply Kd.R_drew)); exact HO.out) (fun _ _ => trivial)⟩, ⟨by repeat (first | (with_reducible first | exact HB.out | apply below_alloc | apply pw_below_drewN | apply below_drew1 | refine below_set ?_ GW.out) | exact HB.out)⟩⟩
              rw [if_neg c32] at A
              have c32b0 : ((bt a0 x5) == 32) = false := beq_eq_false_iff_ne.mpr c32
              have c32b1 : ((bt a0 x5) != 32) = true := bne_iff_ne.mpr c32
              clear c32
              by_cases c10 : bt a0 x5 = 10
              · rw [if_pos c10] at A
                have c10b0 : ((bt a0 x5) == 10) = true := beq_iff_eq.mpr c10
                have c10b1 : ((bt a0 x5) != 10) = false := bne_eq_false_iff_eq.mpr c10
                clear c10
                obtain rfl := Option.some.inj A
                clear A
                go_wp2
                (try simp only [jump_exit, Exit.inBlock, Exit.then, ↓reduceIte])
                (try go_wp2)
                go_roundg k1
                case measure => omega
                case rel => exact ⟨x2, wrap64 (x5 + 1), (by first | rfl | (simp; done) | (simp [*]; done)), HH, ⟨by have := HK1.out; omega⟩, ⟨Kd.R_mono (by (with_reducible repeat (first | apply Kd.R_alloc | apply Kd.R_drewN | apply Kd.R_drew)); exact HO.out) (fun _ _ => trivial)⟩, ⟨by repeat (first | (with_reducible first | exact HB.out | apply below_alloc | apply pw_below_drewN | apply below_drew1 | refine below_set ?_ GW.out) | exact HB.out)⟩⟩
              rw [if_neg c10] at A
              have c10b0 : ((bt a0 x5) == 10) = false := beq_eq_false_iff_ne.mpr c10
              have c10b1 : ((bt a0 x5) != 10) = true := bne_iff_ne.mpr c10
              clear c10
              by_cases c35 : bt a0 x5 = 35
              · rw [if_pos c35] at A
                have c35b0 : ((bt a0 x5) == 35) = true := beq_iff_eq.mpr c35
                have c35b1 : ((bt a0 x5) != 35) = false := bne_eq_false_iff_eq.mpr c35
                clear c35
                obtain ⟨j, AR, e1⟩ := Option.bind_eq_some_iff.mp A
                clear A
                obtain rfl := Option.some.inj e1
                have AR := Aside0.mk AR
                go_wp2
                go_loopg [5] k1 (fun kq v5 w' => ∃ x : Int, v5 = .int .i64 x ∧ Aside0 (token_All.rem kq a0 x = some j) ∧ Aside0 (0 ≤ x) ∧ w2 = w')
                case atStart => exact ⟨x5, rfl, AR, ⟨HX.out.1⟩, rfl⟩
                case round =>
                  clear AR
                  obtain ⟨x, rfl, HA, HX0, rfl⟩ := hrel
                  cases gk with
                  | zero => exact absurd HA.out (by simp [token_All.rem])
                  | succ k2 =>
                    have H := HA.out
                    clear HA
                    rw [token_All.rem] at H
                    by_cases d1 : x < (a0.size : Int)
                    · rw [if_pos d1] at H
                      have d1b0 : decide (x < (a0.size : Int)) = true := decide_eq_true d1
                      have px := eq_true HX0.out
                      have qx := eq_true d1
                      have hx6 := bt_at a0 x
                      have HD := Aside0.mk d1
                      clear d1
                      by_cases d2 : bt a0 x = 10
                      · rw [if_pos d2] at H
                        have d2b0 : ((bt a0 x) == 10) = true := beq_iff_eq.mpr d2
                        have d2b1 : ((bt a0 x) != 10) = false := bne_eq_false_iff_eq.mpr d2
                        clear d2
                        obtain rfl := Option.some.inj H
                        clear H
                        go_wp2
                        (try simp only [jump_exit, Exit.inBlock, Exit.then, ↓reduceIte])
                        (try go_wp2)
                        go_roundg k1
                        case measure => omega
                        case rel => exact ⟨x2, _, (by first | rfl | (simp; done) | (simp [*]; done)), HH, ⟨by have := HK1.out; omega⟩, ⟨Kd.R_mono (by (with_reducible repeat (first | apply Kd.R_alloc | apply Kd.R_drewN | apply Kd.R_drew)); exact HO.out) (fun _ _ => trivial)⟩, ⟨by repeat (first | (with_reducible first | exact HB.out | apply below_alloc | apply pw_below_drewN | apply below_drew1 | refine below_set ?_ GW.out) | exact HB.out)⟩⟩
                      · rw [if_neg d2] at H
                        have d2b0 : ((bt a0 x) == 10) = false := beq_eq_false_iff_ne.mpr d2
                        have d2b1 : ((bt a0 x) != 10) = true := bne_iff_ne.mpr d2
                        clear d2
                        have H2 := Aside0.mk H
                        clear H
                        go_wp2
                        go_roundg k2
                        case measure => omega
                        case rel => exact ⟨wrap64 (x + 1), (by first | rfl | (simp; done) | (simp [*]; done)), H2, ⟨by have := HX0.out; have := HD.out; have := hsz.out; unfold wrap64; omega⟩, rfl⟩
                    · rw [if_neg d1] at H
                      have d1b0 : decide (x < (a0.size : Int)) = false := decide_eq_false d1
                      clear d1
                      obtain rfl := Option.some.inj H
                      clear H
                      go_wp2
                      (try simp only [jump_exit, Exit.inBlock, Exit.then, ↓reduceIte])
                      (try go_wp2)
                      go_roundg k1
                      case measure => omega
                      case rel => exact ⟨x2, _, (by first | rfl | (simp; done) | (simp [*]; done)), HH, ⟨by have := HK1.out; omega⟩, ⟨Kd.R_mono (by (with_reducible repeat (first | apply Kd.R_alloc | apply Kd.R_drewN | apply Kd.R_drew)); exact HO.out) (fun _ _ => trivial)⟩, ⟨by repeat (first | (with_reducible first | exact HB.out | apply below_alloc | apply pw_below_drewN | apply below_drew1 | refine below_set ?_ GW.out) | exact HB.out)⟩⟩
              rw [if_neg c35] at A
              have c35b0 : ((bt a0 x5) == 35) = false := beq_eq_false_iff_ne.mpr c35
              have c35b1 : ((bt a0 x5) != 35) = true := bne_iff_ne.mpr c35
              clear c35
              obtain ⟨bL, AL, A⟩ := Option.bind_eq_some_iff.mp A
              have AL := Aside0.mk AL
              by_cases cL : bL = true
              · subst cL
                rw [if_pos rfl] at A
                obtain ⟨j, AW, A⟩ := Option.bind_eq_some_iff.mp A
                have AW := Aside0.mk AW
                go_wp2_with (first | (go_at_call 39; (with_reducible refine (token_letter.calls (bt a0 x5) true _ AL.out).mono ?_); rintro e w' ⟨rfl, ⟨nd, rfl⟩⟩))
                go_loopg [8] k1 (fun kq v8 w' => ∃ x : Int, v8 = .int .i64 x ∧ Aside0 (token_All.wd kq a0 x = some j) ∧ Aside0 (x5 ≤ x ∧ x ≤ (a0.size : Int)) ∧ Drawn0 w2 w')
                case atStart => exact ⟨wrap64 (x5 + 1), rfl, AW, ⟨by have := HX.out; rw [HE.out]; omega⟩, ⟨⟨_, rfl⟩⟩⟩
                case round =>
                  clear AW
                  obtain ⟨x, rfl, HA, HX0, ⟨m1, rfl⟩⟩ := hrel
                  cases gk with
                  | zero => exact absurd HA.out (by simp [token_All.wd])
                  | succ k2 =>
                    have H := HA.out
                    clear HA
                    rw [token_All.wd] at H
                    by_cases d1 : x < (a0.size : Int)
                    · rw [if_pos d1] at H
                      have d1b0 : decide (x < (a0.size : Int)) = true := decide_eq_true d1
                      have px := eq_true (Int.le_trans HX.out.1 HX0.out.1)
                      have qx := eq_true d1
                      have hx6 := bt_at a0 x
                      have HD := Aside0.mk d1
                      clear d1
                      obtain ⟨bI, AI, H⟩ := Option.bind_eq_some_iff.mp H
                      have AI := Aside0.mk AI
                      by_cases dI : bI = true
                      · subst dI
                        rw [if_pos rfl] at H
                        have H2 := Aside0.mk H
                        clear H
                        go_wp2_with (first | (go_at_call 40; (with_reducible refine (token_inner.calls (bt a0 x) true _ AI.out).mono ?_); rintro e w' ⟨rfl, ⟨nd2, rfl⟩⟩))
                        go_roundg k2
                        case measure => omega
                        case rel => exact ⟨wrap64 (x + 1), (by first | rfl | (simp; done) | (simp [*]; done)), H2, ⟨by have := HX0.out; have := HD.out; have := HX.out; have := hsz.out; unfold wrap64; omega⟩, by repeat (first | exact Drawn0.refl _ | apply Drawn0.step)⟩
                      · replace dI := Bool.eq_false_iff.mpr dI
                        subst dI
                        rw [if_neg (by decide)] at H
                        obtain rfl := Option.some.inj H
                        clear H
                        by_cases c24 : wrap64 (x - x5) > 24
                        · rw [if_pos c24] at A
                          obtain rfl := Option.some.inj A
                          clear A
                          have c24b0 : decide (24 < wrap64 (x - x5)) = true := decide_eq_true c24
                          clear c24
                          have H := HH.out
                          clear HH
                          simp only [Option.some.injEq, Prod.mk.injEq] at H
                          obtain ⟨rfl, rfl, rfl⟩ := H
                          go_wp2_with (first | (go_at_call 40; (with_reducible refine (token_inner.calls (bt a0 x) false _ AI.out).mono ?_); rintro e w' ⟨rfl, ⟨nd2, rfl⟩⟩))
                          (try simp only [jump_ret, Exit.inBlock, Exit.then, Exit.noGoto_ret])
                          go_ret3
                          exact ⟨_, (by first | rfl | (simp; done) | (simp [*]; done)), Kd.R_nil _ _ _ _ _, by repeat (first | (with_reducible first | exact HB.out | apply below_alloc | apply pw_below_drewN | apply below_drew1 | refine below_set ?_ GW.out) | exact HB.out)⟩
                        · rw [if_neg c24] at A
                          have c24b0 : decide (24 < wrap64 (x - x5)) = false := decide_eq_false c24
                          clear c24
                          rw [if_pos HX0.out.2, if_pos HX0.out.1] at A
                          obtain rfl := Option.some.inj A
                          clear A
                          obtain ⟨HL, HN⟩ := ite_some HH.out
                          have HN := Aside0.mk HN
                          have HL := Aside0.mk HL
                          clear HH
                          have s1 := eq_true HX.out.1
                          have s2 := eq_true HX0.out.1
                          have s3 := eq_true HX0.out.2
                          have s1b : decide (0 ≤ x5) = true := decide_eq_true HX.out.1
                          have s2b : decide (x5 ≤ x) = true := decide_eq_true HX0.out.1
                          have s3b : decide (x ≤ (a0.size : Int)) = true := decide_eq_true HX0.out.2
                          go_wp2_with (first | (go_at_call 40; (with_reducible refine (token_inner.calls (bt a0 x) false _ AI.out).mono ?_); rintro e w' ⟨rfl, ⟨nd2, rfl⟩⟩))
                          go_region
                          all_goals go_wp2
                          all_goals (go_step3; (try simp only [Exit.inBlock, Exit.then]); refine jump_goto (hJ' _ _ ?_); (repeat apply Exists.intro); refine ⟨HN, ⟨Nat.le_refl _⟩, ?_, ?_, ?_, GW, HL, rfl⟩)
                          all_goals first | exact ⟨by (with_reducible repeat (first | refine blk_drewN ?_ _ | refine blk_drew ?_ | refine blk_alloc ?_ _)); exact (blk_set (blk_set BK.out 0 (.int .u8 1)) 1 (.string _))⟩ | exact ⟨by (with_reducible repeat (first | apply Kd.R_alloc | apply Kd.R_drewN | apply Kd.R_drew)); exact (Kd.R_far (p := ⟨gb, 1, none⟩) (Kd.R_far (p := ⟨gb, 0, none⟩) HO.out (fun _ h => h) _) (fun _ h => h) _)⟩ | exact ⟨by repeat (first | (with_reducible first | exact HB.out | apply below_alloc | apply pw_below_drewN | apply below_drew1 | refine below_set ?_ GW.out) | exact HB.out)⟩
                    · rw [if_neg d1] at H
                      have d1b0 : decide (x < (a0.size : Int)) = false := decide_eq_false d1
                      clear d1
                      obtain rfl := Option.some.inj H
                      clear H
                      by_cases c24 : wrap64 (x - x5) > 24
                      · rw [if_pos c24] at A
                        obtain rfl := Option.some.inj A
                        clear A
                        have c24b0 : decide (24 < wrap64 (x - x5)) = true := decide_eq_true c24
                        clear c24
                        have H := HH.out
                        clear HH
                        simp only [Option.some.injEq, Prod.mk.injEq] at H
                        obtain ⟨rfl, rfl, rfl⟩ := H
                        go_wp2_with (first | fail)
                        (try simp only [jump_ret, Exit.inBlock, Exit.then, Exit.noGoto_ret])
                        go_ret3
                        exact ⟨_, (by first | rfl | (simp; done) | (simp [*]; done)), Kd.R_nil _ _ _ _ _, by repeat (first | (with_reducible first | exact HB.out | apply below_alloc | apply pw_below_drewN | apply below_drew1 | refine below_set ?_ GW.out) | exact HB.out)⟩
                      · rw [if_neg c24] at A
                        have c24b0 : decide (24 < wrap64 (x - x5)) = false := decide_eq_false c24
                        clear c24
                        rw [if_pos HX0.out.2, if_pos HX0.out.1] at A
                        obtain rfl := Option.some.inj A
                        clear A
                        obtain ⟨HL, HN⟩ := ite_some HH.out
                        have HN := Aside0.mk HN
                        have HL := Aside0.mk HL
                        clear HH
                        have s1 := eq_true HX.out.1
                        have s2 := eq_true HX0.out.1
                        have s3 := eq_true HX0.out.2
                        have s1b : decide (0 ≤ x5) = true := decide_eq_true HX.out.1
                        have s2b : decide (x5 ≤ x) = true := decide_eq_true HX0.out.1
                        have s3b : decide (x ≤ (a0.size : Int)) = true := decide_eq_true HX0.out.2
                        go_wp2_with (first | fail)
                        go_region
                        all_goals go_wp2
                        all_goals (go_step3; (try simp only [Exit.inBlock, Exit.then]); refine jump_goto (hJ' _ _ ?_); (repeat apply Exists.intro); refine ⟨HN, ⟨Nat.le_refl _⟩, ?_, ?_, ?_, GW, HL, rfl⟩)
                        all_goals first | exact ⟨by (with_reducible repeat (first | refine blk_drewN ?_ _ | refine blk_drew ?_ | refine blk_alloc ?_ _)); exact (blk_set (blk_set BK.out 0 (.int .u8 1)) 1 (.string _))⟩ | exact ⟨by (with_reducible repeat (first | apply Kd.R_alloc | apply Kd.R_drewN | apply Kd.R_drew)); exact (Kd.R_far (p := ⟨gb, 1, none⟩) (Kd.R_far (p := ⟨gb, 0, none⟩) HO.out (fun _ h => h) _) (fun _ h => h) _)⟩ | exact ⟨by repeat (first | (with_reducible first | exact HB.out | apply below_alloc | apply pw_below_drewN | apply below_drew1 | refine below_set ?_ GW.out) | exact HB.out)⟩
              replace cL := Bool.eq_false_iff.mpr cL
              subst cL
              rw [if_neg (by decide)] at A
              obtain ⟨bD, AD, A⟩ := Option.bind_eq_some_iff.mp A
              have AD := Aside0.mk AD
              by_cases cD : bD = true
              · subst cD
                rw [if_pos rfl] at A
                obtain ⟨⟨q1, q2, q3, q4⟩, AN, A⟩ := Option.bind_eq_some_iff.mp A
                have AN := Aside0.mk AN
                dsimp only at A
                by_cases cq : q4 = 0
                · rw [if_pos cq] at A
                  have cqb0 : (q4 == 0) = true := beq_iff_eq.mpr cq
                  have cqb1 : (q4 != 0) = false := bne_eq_false_iff_eq.mpr cq
                  clear cq
                  obtain rfl := Option.some.inj A
                  clear A
                  obtain ⟨HL, HN⟩ := ite_some HH.out
                  have HN := Aside0.mk HN
                  have HL := Aside0.mk HL
                  clear HH
                  go_wp2_with (first | (go_at_call 39; (with_reducible refine (token_letter.calls (bt a0 x5) false _ AL.out).mono ?_); rintro e w' ⟨rfl, ⟨nd, rfl⟩⟩) | (go_at_call 41; (with_reducible refine (token_digit.calls (bt a0 x5) true _ AD.out).mono ?_); rintro e w' ⟨rfl, ⟨nd3, rfl⟩⟩) | (go_at_call 42; (with_reducible refine (token_number.calls k1 a0 x5 q1 q2 q3 q4 _ AN.out).mono ?_); rintro e w' ⟨rfl, ⟨nd4, rfl⟩⟩))
                  all_goals (go_step3; (try simp only [Exit.inBlock, Exit.then]); refine jump_goto (hJ' _ _ ?_); (repeat apply Exists.intro); refine ⟨HN, ⟨Nat.le_refl _⟩, ?_, ?_, ?_, GW, HL, rfl⟩)
                  all_goals first | exact ⟨by (with_reducible repeat (first | refine blk_drewN ?_ _ | refine blk_drew ?_ | refine blk_alloc ?_ _)); exact (blk_set (blk_set BK.out 0 (.int .u8 2)) 2 (.int .i64 q1))⟩ | exact ⟨by (with_reducible repeat (first | apply Kd.R_alloc | apply Kd.R_drewN | apply Kd.R_drew)); exact (Kd.R_far (p := ⟨gb, 2, none⟩) (Kd.R_far (p := ⟨gb, 0, none⟩) HO.out (fun _ h => h) _) (fun _ h => h) _)⟩ | exact ⟨by repeat (first | (with_reducible first | exact HB.out | apply below_alloc | apply pw_below_drewN | apply below_drew1 | refine below_set ?_ GW.out) | exact HB.out)⟩
                · rw [if_neg cq] at A
                  have cqb0 : (q4 == 0) = false := beq_eq_false_iff_ne.mpr cq
                  have cqb1 : (q4 != 0) = true := bne_iff_ne.mpr cq
                  clear cq
                  obtain rfl := Option.some.inj A
                  clear A
                  have H := HH.out
                  clear HH
                  simp only [Option.some.injEq, Prod.mk.injEq] at H
                  obtain ⟨rfl, rfl, rfl⟩ := H
                  go_wp2_with (first | (go_at_call 39; (with_reducible refine (token_letter.calls (bt a0 x5) false _ AL.out).mono ?_); rintro e w' ⟨rfl, ⟨nd, rfl⟩⟩) | (go_at_call 41; (with_reducible refine (token_digit.calls (bt a0 x5) true _ AD.out).mono ?_); rintro e w' ⟨rfl, ⟨nd3, rfl⟩⟩) | (go_at_call 42; (with_reducible refine (token_number.calls k1 a0 x5 q1 q2 q3 q4 _ AN.out).mono ?_); rintro e w' ⟨rfl, ⟨nd4, rfl⟩⟩))
                  (try simp only [jump_ret, Exit.inBlock, Exit.then, Exit.noGoto_ret])
                  go_ret3
                  exact ⟨_, (by first | rfl | (simp; done) | (simp [*]; done)), Kd.R_nil _ _ _ _ _, by repeat (first | (with_reducible first | exact HB.out | apply below_alloc | apply pw_below_drewN | apply below_drew1 | refine below_set ?_ GW.out) | exact HB.out)⟩
              replace cD := Bool.eq_false_iff.mpr cD
              subst cD
              rw [if_neg (by decide)] at A
              by_cases c34 : bt a0 x5 = 34
              · rw [if_pos c34] at A
                have c34b0 : ((bt a0 x5) == 34) = true := beq_iff_eq.mpr c34
                have c34b1 : ((bt a0 x5) != 34) = false := bne_eq_false_iff_eq.mpr c34
                clear c34
                obtain ⟨⟨q1, q2, q3, q4⟩, AT, A⟩ := Option.bind_eq_some_iff.mp A
                have AT := Aside0.mk AT
                dsimp only at A
                by_cases cq : q4 = 0
                · rw [if_pos cq] at A
                  have cqb0 : (q4 == 0) = true := beq_iff_eq.mpr cq
                  have cqb1 : (q4 != 0) = false := bne_eq_false_iff_eq.mpr cq
                  clear cq
                  obtain rfl := Option.some.inj A
                  clear A
                  obtain ⟨HL, HN⟩ := ite_some HH.out
                  have HN := Aside0.mk HN
                  have HL := Aside0.mk HL
                  clear HH
                  go_wp2_with (first | (go_at_call 39; (with_reducible refine (token_letter.calls (bt a0 x5) false _ AL.out).mono ?_); rintro e w' ⟨rfl, ⟨nd, rfl⟩⟩) | (go_at_call 41; (with_reducible refine (token_digit.calls (bt a0 x5) false _ AD.out).mono ?_); rintro e w' ⟨rfl, ⟨nd3, rfl⟩⟩) | (go_at_call 43; (with_reducible refine (token_text.calls k1 a0 x5 q1 q2 q3 q4 _ AT.out).mono ?_); rintro e wT ⟨rfl, hb⟩; have n0 := Aside0.mk (Kd.R_below (by (with_reducible repeat (first | apply Kd.R_alloc | apply Kd.R_drewN | apply Kd.R_drew)); exact Kd.R_far (p := ⟨gb, 0, none⟩) HO.out (fun _ h => h) _) hb); have n1 := Aside0.mk (below_step (by repeat (first | (with_reducible first | exact HB.out | apply below_alloc | apply pw_below_drewN | apply below_drew1 | refine below_set ?_ GW.out) | exact HB.out)) hb); have n2 := Aside0.mk (blk_below (g := gb) (o := .cells #[.int .u8 3, .string ⟨#[]⟩, .int .i64 0, .int .i64 x5] 33 (0, 0)) (by (with_reducible repeat (first | refine blk_drewN ?_ _ | refine blk_drew ?_ | refine blk_alloc ?_ _)); exact blk_set BK.out 0 _) hb); clear HO HB BK hb; have HO := n0; have HB := n1; have BK := n2; clear n0 n1 n2; have hct1 : wT.cell? ⟨gb, 1, none⟩ = some (.string (⟨#[]⟩ : ByteArray)) := (blk_cell BK.out 1).trans rfl; have hft1 := blk_frozen BK.out 1))
                  all_goals (go_step3; (try simp only [Exit.inBlock, Exit.then]); refine jump_goto (hJ' _ _ ?_); (repeat apply Exists.intro); refine ⟨HN, ⟨Nat.le_refl _⟩, ?_, ?_, ?_, GW, HL, rfl⟩)
                  all_goals first | exact ⟨by (with_reducible repeat (first | refine blk_drewN ?_ _ | refine blk_drew ?_ | refine blk_alloc ?_ _)); exact (blk_set BK.out 1 (.string q1))⟩ | exact ⟨by (with_reducible repeat (first | apply Kd.R_alloc | apply Kd.R_drewN | apply Kd.R_drew)); exact (Kd.R_far (p := ⟨gb, 1, none⟩) HO.out (fun _ h => h) _)⟩ | exact ⟨by repeat (first | (with_reducible first | exact HB.out | apply below_alloc | apply pw_below_drewN | apply below_drew1 | refine below_set ?_ GW.out) | exact HB.out)⟩
                · rw [if_neg cq] at A
                  have cqb0 : (q4 == 0) = false := beq_eq_false_iff_ne.mpr cq
                  have cqb1 : (q4 != 0) = true := bne_iff_ne.mpr cq
                  clear cq
                  obtain rfl := Option.some.inj A
                  clear A
                  have H := HH.out
                  clear HH
                  simp only [Option.some.injEq, Prod.mk.injEq] at H
                  obtain ⟨rfl, rfl, rfl⟩ := H
                  go_wp2_with (first | (go_at_call 39; (with_reducible refine (token_letter.calls (bt a0 x5) false _ AL.out).mono ?_); rintro e w' ⟨rfl, ⟨nd, rfl⟩⟩) | (go_at_call 41; (with_reducible refine (token_digit.calls (bt a0 x5) false _ AD.out).mono ?_); rintro e w' ⟨rfl, ⟨nd3, rfl⟩⟩) | (go_at_call 43; (with_reducible refine (token_text.calls k1 a0 x5 q1 q2 q3 q4 _ AT.out).mono ?_); rintro e wT ⟨rfl, hb⟩; have n0 := Aside0.mk (Kd.R_below (by (with_reducible repeat (first | apply Kd.R_alloc | apply Kd.R_drewN | apply Kd.R_drew)); exact Kd.R_far (p := ⟨gb, 0, none⟩) HO.out (fun _ h => h) _) hb); have n1 := Aside0.mk (below_step (by repeat (first | (with_reducible first | exact HB.out | apply below_alloc | apply pw_below_drewN | apply below_drew1 | refine below_set ?_ GW.out) | exact HB.out)) hb); have n2 := Aside0.mk (blk_below (g := gb) (o := .cells #[.int .u8 3, .string ⟨#[]⟩, .int .i64 0, .int .i64 x5] 33 (0, 0)) (by (with_reducible repeat (first | refine blk_drewN ?_ _ | refine blk_drew ?_ | refine blk_alloc ?_ _)); exact blk_set BK.out 0 _) hb); clear HO HB BK hb; have HO := n0; have HB := n1; have BK := n2; clear n0 n1 n2; have hct1 : wT.cell? ⟨gb, 1, none⟩ = some (.string (⟨#[]⟩ : ByteArray)) := (blk_cell BK.out 1).trans rfl; have hft1 := blk_frozen BK.out 1))
                  (try simp only [jump_ret, Exit.inBlock, Exit.then, Exit.noGoto_ret])
                  go_ret3
                  exact ⟨_, (by first | rfl | (simp; done) | (simp [*]; done)), Kd.R_nil _ _ _ _ _, by repeat (first | (with_reducible first | exact HB.out | apply below_alloc | apply pw_below_drewN | apply below_drew1 | refine below_set ?_ GW.out) | exact HB.out)⟩
              rw [if_neg c34] at A
              have c34b0 : ((bt a0 x5) == 34) = false := beq_eq_false_iff_ne.mpr c34
              have c34b1 : ((bt a0 x5) != 34) = true := bne_iff_ne.mpr c34
              clear c34
              by_cases c33 : bt a0 x5 = 33
              · rw [if_pos c33] at A
                have c33b0 : ((bt a0 x5) == 33) = true := beq_iff_eq.mpr c33
                have c33b1 : ((bt a0 x5) != 33) = false := bne_eq_false_iff_eq.mpr c33
                clear c33
                by_cases cZ : wrap64 (x5 + 1) = (a0.size : Int)
                · rw [if_pos cZ] at A
                  have cZb0 : (wrap64 (x5 + 1) == (a0.size : Int)) = true := beq_iff_eq.mpr cZ
                  have cZb1 : (wrap64 (x5 + 1) != (a0.size : Int)) = false := bne_eq_false_iff_eq.mpr cZ
                  clear cZ
                  obtain rfl := Option.some.inj A
                  clear A
                  have H := HH.out
                  clear HH
                  simp only [Option.some.injEq, Prod.mk.injEq] at H
                  obtain ⟨rfl, rfl, rfl⟩ := H
                  go_wp2_with (first | (go_at_call 39; (with_reducible refine (token_letter.calls (bt a0 x5) false _ AL.out).mono ?_); rintro e w' ⟨rfl, ⟨nd, rfl⟩⟩) | (go_at_call 41; (with_reducible refine (token_digit.calls (bt a0 x5) false _ AD.out).mono ?_); rintro e w' ⟨rfl, ⟨nd3, rfl⟩⟩))
                  (try simp only [jump_ret, Exit.inBlock, Exit.then, Exit.noGoto_ret])
                  go_ret3
                  exact ⟨_, (by first | rfl | (simp; done) | (simp [*]; done)), Kd.R_nil _ _ _ _ _, by repeat (first | (with_reducible first | exact HB.out | apply below_alloc | apply pw_below_drewN | apply below_drew1 | refine below_set ?_ GW.out) | exact HB.out)⟩
                rw [if_neg cZ] at A
                have cZb0 : (wrap64 (x5 + 1) == (a0.size : Int)) = false := beq_eq_false_iff_ne.mpr cZ
                have cZb1 : (wrap64 (x5 + 1) != (a0.size : Int)) = true := bne_iff_ne.mpr cZ
                have HQ := Aside0.mk (show wrap64 (x5 + 1) < (a0.size : Int) by have := HX.out; rw [HE.out] at cZ ⊢; omega)
                clear cZ
                rw [if_pos HQ.out] at A
                have cEb : decide (wrap64 (x5 + 1) < (a0.size : Int)) = true := decide_eq_true HQ.out
                have p6 : (0 ≤ wrap64 (x5 + 1)) = True := eq_true (by have := HX.out; rw [HE.out]; omega)
                have q6 : (wrap64 (x5 + 1) < (a0.size : Int)) = True := eq_true HQ.out
                have hx7 := bt_at a0 (wrap64 (x5 + 1))
                by_cases c61 : bt a0 (wrap64 (x5 + 1)) = 61
                · rw [if_pos c61] at A
                  have c61b0 : ((bt a0 (wrap64 (x5 + 1))) == 61) = true := beq_iff_eq.mpr c61
                  have c61b1 : ((bt a0 (wrap64 (x5 + 1))) != 61) = false := bne_eq_false_iff_eq.mpr c61
                  have H61 := Aside0.mk c61
                  clear c61
                  unfold token_All.sg at A
                  obtain ⟨t, AT, A⟩ := Option.bind_eq_some_iff.mp A
                  have AT := Aside0.mk AT
                  by_cases ct : t < 0
                  · rw [if_pos ct] at A
                    have ctb : decide (t < 0) = true := decide_eq_true ct
                    clear ct
                    obtain rfl := Option.some.inj A
                    clear A
                    have H := HH.out
                    clear HH
                    simp only [Option.some.injEq, Prod.mk.injEq] at H
                    obtain ⟨rfl, rfl, rfl⟩ := H
                    go_wp2_with (first | (go_at_call 39; (with_reducible refine (token_letter.calls (bt a0 x5) false _ AL.out).mono ?_); rintro e w' ⟨rfl, ⟨nd, rfl⟩⟩) | (go_at_call 41; (with_reducible refine (token_digit.calls (bt a0 x5) false _ AD.out).mono ?_); rintro e w' ⟨rfl, ⟨nd3, rfl⟩⟩) | (go_at_call 44; (with_reducible refine (strings_IndexByte.calls (⟨#[40, 41, 123, 125, 91, 93, 44, 61, 60, 43, 45, 42, 47, 37, 33]⟩ : ByteArray) (bt a0 x5) t _ AT.out).mono ?_); rintro e w' ⟨rfl, ⟨nd5, rfl⟩⟩))
                    (try simp only [jump_ret, Exit.inBlock, Exit.then, Exit.noGoto_ret])
                    go_ret3
                    exact ⟨_, (by first | rfl | (simp; done) | (simp [*]; done)), Kd.R_nil _ _ _ _ _, by repeat (first | (with_reducible first | exact HB.out | apply below_alloc | apply pw_below_drewN | apply below_drew1 | refine below_set ?_ GW.out) | exact HB.out)⟩
                  rw [if_neg ct] at A
                  have ctb : decide (t < 0) = false := decide_eq_false ct
                  clear ct
                  obtain ⟨u, AU, A⟩ := Option.bind_eq_some_iff.mp A
                  have AU := Aside0.mk AU
                  by_cases cu : 0 ≤ u
                  · rw [if_pos cu] at A
                    have cub : decide (0 ≤ u) = true := decide_eq_true cu
                    clear cu
                    rw [if_pos HQ.out, if_pos H61.out] at A
                    obtain rfl := Option.some.inj A
                    clear A
                    obtain ⟨HL, HN⟩ := ite_some HH.out
                    have HN := Aside0.mk HN
                    have HL := Aside0.mk HL
                    clear HH
                    have s1 := eq_true HX.out.1
                    have s1b : decide (0 ≤ x5) = true := decide_eq_true HX.out.1
                    have S2 : x5 ≤ wrap64 (wrap64 (x5 + 1) + 1) ∧ wrap64 (wrap64 (x5 + 1) + 1) ≤ (a0.size : Int) := by have := HX.out; have := hsz.out; have := HQ.out; rw [HE.out] at this; rw [HE.out]; unfold wrap64; omega
                    have s2 := eq_true S2.1
                    have s3 := eq_true S2.2
                    have s2b : decide (x5 ≤ wrap64 (wrap64 (x5 + 1) + 1)) = true := decide_eq_true S2.1
                    have s3b : decide (wrap64 (wrap64 (x5 + 1) + 1) ≤ (a0.size : Int)) = true := decide_eq_true S2.2
                    clear S2
                    go_wp2_with (first | (go_at_call 39; (with_reducible refine (token_letter.calls (bt a0 x5) false _ AL.out).mono ?_); rintro e w' ⟨rfl, ⟨nd, rfl⟩⟩) | (go_at_call 41; (with_reducible refine (token_digit.calls (bt a0 x5) false _ AD.out).mono ?_); rintro e w' ⟨rfl, ⟨nd3, rfl⟩⟩) | (go_at_call 44; (with_reducible refine (strings_IndexByte.calls (⟨#[40, 41, 123, 125, 91, 93, 44, 61, 60, 43, 45, 42, 47, 37, 33]⟩ : ByteArray) (bt a0 x5) t _ AT.out).mono ?_); rintro e w' ⟨rfl, ⟨nd5, rfl⟩⟩) | (go_at_call 44; (with_reducible refine (strings_IndexByte.calls (⟨#[61, 60, 33]⟩ : ByteArray) (bt a0 x5) u _ AU.out).mono ?_); rintro e w' ⟨rfl, ⟨nd5, rfl⟩⟩))
                    go_region
                    all_goals go_wp2
                    all_goals (go_step3; go_step; go_step; refine hB _ _ ?_; (repeat apply Exists.intro); refine ⟨HN, ⟨Nat.le_refl _⟩, ?_, ?_, ?_, GW, HL, rfl⟩)
                    all_goals first | exact ⟨by (with_reducible repeat (first | refine blk_drewN ?_ _ | refine blk_drew ?_ | refine blk_alloc ?_ _)); exact (blk_set (blk_set BK.out 0 (.int .u8 4)) 1 (.string _))⟩ | exact ⟨by (with_reducible repeat (first | apply Kd.R_alloc | apply Kd.R_drewN | apply Kd.R_drew)); exact (Kd.R_far (p := ⟨gb, 1, none⟩) (Kd.R_far (p := ⟨gb, 0, none⟩) HO.out (fun _ h => h) _) (fun _ h => h) _)⟩ | exact ⟨by repeat (first | (with_reducible first | exact HB.out | apply below_alloc | apply pw_below_drewN | apply below_drew1 | refine below_set ?_ GW.out) | exact HB.out)⟩
                  · rw [if_neg cu] at A
                    have cub : decide (0 ≤ u) = false := decide_eq_false cu
                    clear cu
                    obtain rfl := Option.some.inj A
                    clear A
                    obtain ⟨HL, HN⟩ := ite_some HH.out
                    have HN := Aside0.mk HN
                    have HL := Aside0.mk HL
                    clear HH
                    have s1 := eq_true HX.out.1
                    have s1b : decide (0 ≤ x5) = true := decide_eq_true HX.out.1
                    have S2 : x5 ≤ wrap64 (x5 + 1) ∧ wrap64 (x5 + 1) ≤ (a0.size : Int) := by have := HX.out; rw [HE.out]; omega
                    have s2 := eq_true S2.1
                    have s3 := eq_true S2.2
                    have s2b : decide (x5 ≤ wrap64 (x5 + 1)) = true := decide_eq_true S2.1
                    have s3b : decide (wrap64 (x5 + 1) ≤ (a0.size : Int)) = true := decide_eq_true S2.2
                    clear S2
                    go_wp2_with (first | (go_at_call 39; (with_reducible refine (token_letter.calls (bt a0 x5) false _ AL.out).mono ?_); rintro e w' ⟨rfl, ⟨nd, rfl⟩⟩) | (go_at_call 41; (with_reducible refine (token_digit.calls (bt a0 x5) false _ AD.out).mono ?_); rintro e w' ⟨rfl, ⟨nd3, rfl⟩⟩) | (go_at_call 44; (with_reducible refine (strings_IndexByte.calls (⟨#[40, 41, 123, 125, 91, 93, 44, 61, 60, 43, 45, 42, 47, 37, 33]⟩ : ByteArray) (bt a0 x5) t _ AT.out).mono ?_); rintro e w' ⟨rfl, ⟨nd5, rfl⟩⟩) | (go_at_call 44; (with_reducible refine (strings_IndexByte.calls (⟨#[61, 60, 33]⟩ : ByteArray) (bt a0 x5) u _ AU.out).mono ?_); rintro e w' ⟨rfl, ⟨nd5, rfl⟩⟩))
                    go_region
                    all_goals go_wp2
                    all_goals (go_step3; go_step; go_step; refine hB _ _ ?_; (repeat apply Exists.intro); refine ⟨HN, ⟨Nat.le_refl _⟩, ?_, ?_, ?_, GW, HL, rfl⟩)
                    all_goals first | exact ⟨by (with_reducible repeat (first | refine blk_drewN ?_ _ | refine blk_drew ?_ | refine blk_alloc ?_ _)); exact (blk_set (blk_set BK.out 0 (.int .u8 4)) 1 (.string _))⟩ | exact ⟨by (with_reducible repeat (first | apply Kd.R_alloc | apply Kd.R_drewN | apply Kd.R_drew)); exact (Kd.R_far (p := ⟨gb, 1, none⟩) (Kd.R_far (p := ⟨gb, 0, none⟩) HO.out (fun _ h => h) _) (fun _ h => h) _)⟩ | exact ⟨by repeat (first | (with_reducible first | exact HB.out | apply below_alloc | apply pw_below_drewN | apply below_drew1 | refine below_set ?_ GW.out) | exact HB.out)⟩
                · rw [if_neg c61] at A
                  have c61b0 : ((bt a0 (wrap64 (x5 + 1))) == 61) = false := beq_eq_false_iff_ne.mpr c61
                  have c61b1 : ((bt a0 (wrap64 (x5 + 1))) != 61) = true := bne_iff_ne.mpr c61
                  clear c61
                  obtain rfl := Option.some.inj A
                  clear A
                  have H := HH.out
                  clear HH
                  simp only [Option.some.injEq, Prod.mk.injEq] at H
                  obtain ⟨rfl, rfl, rfl⟩ := H
                  go_wp2_with (first | (go_at_call 39; (with_reducible refine (token_letter.calls (bt a0 x5) false _ AL.out).mono ?_); rintro e w' ⟨rfl, ⟨nd, rfl⟩⟩) | (go_at_call 41; (with_reducible refine (token_digit.calls (bt a0 x5) false _ AD.out).mono ?_); rintro e w' ⟨rfl, ⟨nd3, rfl⟩⟩))
                  (try simp only [jump_ret, Exit.inBlock, Exit.then, Exit.noGoto_ret])
                  go_ret3
                  exact ⟨_, (by first | rfl | (simp; done) | (simp [*]; done)), Kd.R_nil _ _ _ _ _, by repeat (first | (with_reducible first | exact HB.out | apply below_alloc | apply pw_below_drewN | apply below_drew1 | refine below_set ?_ GW.out) | exact HB.out)⟩
              rw [if_neg c33] at A
              have c33b0 : ((bt a0 x5) == 33) = false := beq_eq_false_iff_ne.mpr c33
              have c33b1 : ((bt a0 x5) != 33) = true := bne_iff_ne.mpr c33
              clear c33
              unfold token_All.sg at A
              obtain ⟨t, AT, A⟩ := Option.bind_eq_some_iff.mp A
              have AT := Aside0.mk AT
              by_cases ct : t < 0
              · rw [if_pos ct] at A
                have ctb : decide (t < 0) = true := decide_eq_true ct
                clear ct
                obtain rfl := Option.some.inj A
                clear A
                have H := HH.out
                clear HH
                simp only [Option.some.injEq, Prod.mk.injEq] at H
                obtain ⟨rfl, rfl, rfl⟩ := H
                go_wp2_with (first | (go_at_call 39; (with_reducible refine (token_letter.calls (bt a0 x5) false _ AL.out).mono ?_); rintro e w' ⟨rfl, ⟨nd, rfl⟩⟩) | (go_at_call 41; (with_reducible refine (token_digit.calls (bt a0 x5) false _ AD.out).mono ?_); rintro e w' ⟨rfl, ⟨nd3, rfl⟩⟩) | (go_at_call 44; (with_reducible refine (strings_IndexByte.calls (⟨#[40, 41, 123, 125, 91, 93, 44, 61, 60, 43, 45, 42, 47, 37, 33]⟩ : ByteArray) (bt a0 x5) t _ AT.out).mono ?_); rintro e w' ⟨rfl, ⟨nd5, rfl⟩⟩))
                (try simp only [jump_ret, Exit.inBlock, Exit.then, Exit.noGoto_ret])
                go_ret3
                exact ⟨_, (by first | rfl | (simp; done) | (simp [*]; done)), Kd.R_nil _ _ _ _ _, by repeat (first | (with_reducible first | exact HB.out | apply below_alloc | apply pw_below_drewN | apply below_drew1 | refine below_set ?_ GW.out) | exact HB.out)⟩
              rw [if_neg ct] at A
              have ctb : decide (t < 0) = false := decide_eq_false ct
              clear ct
              obtain ⟨u, AU, A⟩ := Option.bind_eq_some_iff.mp A
              have AU := Aside0.mk AU
              by_cases cu : 0 ≤ u
              · rw [if_pos cu] at A
                have cub : decide (0 ≤ u) = true := decide_eq_true cu
                clear cu
                by_cases cE : wrap64 (x5 + 1) < (a0.size : Int)
                · rw [if_pos cE] at A
                  have cEb : decide (wrap64 (x5 + 1) < (a0.size : Int)) = true := decide_eq_true cE
                  have HQ := Aside0.mk cE
                  clear cE
                  have p6 : (0 ≤ wrap64 (x5 + 1)) = True := eq_true (by have := HX.out; rw [HE.out]; omega)
                  have q6 : (wrap64 (x5 + 1) < (a0.size : Int)) = True := eq_true HQ.out
                  have hx7 := bt_at a0 (wrap64 (x5 + 1))
                  by_cases c61 : bt a0 (wrap64 (x5 + 1)) = 61
                  · rw [if_pos c61] at A
                    have c61b0 : ((bt a0 (wrap64 (x5 + 1))) == 61) = true := beq_iff_eq.mpr c61
                    have c61b1 : ((bt a0 (wrap64 (x5 + 1))) != 61) = false := bne_eq_false_iff_eq.mpr c61
                    clear c61
                    obtain rfl := Option.some.inj A
                    clear A
                    obtain ⟨HL, HN⟩ := ite_some HH.out
                    have HN := Aside0.mk HN
                    have HL := Aside0.mk HL
                    clear HH
                    have s1 := eq_true HX.out.1
                    have s1b : decide (0 ≤ x5) = true := decide_eq_true HX.out.1
                    have S2 : x5 ≤ wrap64 (wrap64 (x5 + 1) + 1) ∧ wrap64 (wrap64 (x5 + 1) + 1) ≤ (a0.size : Int) := by have := HX.out; have := hsz.out; have := HQ.out; rw [HE.out] at this; rw [HE.out]; unfold wrap64; omega
                    have s2 := eq_true S2.1
                    have s3 := eq_true S2.2
                    have s2b : decide (x5 ≤ wrap64 (wrap64 (x5 + 1) + 1)) = true := decide_eq_true S2.1
                    have s3b : decide (wrap64 (wrap64 (x5 + 1) + 1) ≤ (a0.size : Int)) = true := decide_eq_true S2.2
                    clear S2
                    go_wp2_with (first | (go_at_call 39; (with_reducible refine (token_letter.calls (bt a0 x5) false _ AL.out).mono ?_); rintro e w' ⟨rfl, ⟨nd, rfl⟩⟩) | (go_at_call 41; (with_reducible refine (token_digit.calls (bt a0 x5) false _ AD.out).mono ?_); rintro e w' ⟨rfl, ⟨nd3, rfl⟩⟩) | (go_at_call 44; (with_reducible refine (strings_IndexByte.calls (⟨#[40, 41, 123, 125, 91, 93, 44, 61, 60, 43, 45, 42, 47, 37, 33]⟩ : ByteArray) (bt a0 x5) t _ AT.out).mono ?_); rintro e w' ⟨rfl, ⟨nd5, rfl⟩⟩) | (go_at_call 44; (with_reducible refine (strings_IndexByte.calls (⟨#[61, 60, 33]⟩ : ByteArray) (bt a0 x5) u _ AU.out).mono ?_); rintro e w' ⟨rfl, ⟨nd5, rfl⟩⟩))
                    go_region
                    all_goals go_wp2
                    all_goals (go_step3; go_step; go_step; refine hB _ _ ?_; (repeat apply Exists.intro); refine ⟨HN, ⟨Nat.le_refl _⟩, ?_, ?_, ?_, GW, HL, rfl⟩)
                    all_goals first | exact ⟨by (with_reducible repeat (first | refine blk_drewN ?_ _ | refine blk_drew ?_ | refine blk_alloc ?_ _)); exact (blk_set (blk_set BK.out 0 (.int .u8 4)) 1 (.string _))⟩ | exact ⟨by (with_reducible repeat (first | apply Kd.R_alloc | apply Kd.R_drewN | apply Kd.R_drew)); exact (Kd.R_far (p := ⟨gb, 1, none⟩) (Kd.R_far (p := ⟨gb, 0, none⟩) HO.out (fun _ h => h) _) (fun _ h => h) _)⟩ | exact ⟨by repeat (first | (with_reducible first | exact HB.out | apply below_alloc | apply pw_below_drewN | apply below_drew1 | refine below_set ?_ GW.out) | exact HB.out)⟩
                  · rw [if_neg c61] at A
                    have c61b0 : ((bt a0 (wrap64 (x5 + 1))) == 61) = false := beq_eq_false_iff_ne.mpr c61
                    have c61b1 : ((bt a0 (wrap64 (x5 + 1))) != 61) = true := bne_iff_ne.mpr c61
                    clear c61
                    obtain rfl := Option.some.inj A
                    clear A
                    obtain ⟨HL, HN⟩ := ite_some HH.out
                    have HN := Aside0.mk HN
                    have HL := Aside0.mk HL
                    clear HH
                    have s1 := eq_true HX.out.1
                    have s1b : decide (0 ≤ x5) = true := decide_eq_true HX.out.1
                    have S2 : x5 ≤ wrap64 (x5 + 1) ∧ wrap64 (x5 + 1) ≤ (a0.size : Int) := by have := HX.out; rw [HE.out]; omega
                    have s2 := eq_true S2.1
                    have s3 := eq_true S2.2
                    have s2b : decide (x5 ≤ wrap64 (x5 + 1)) = true := decide_eq_true S2.1
                    have s3b : decide (wrap64 (x5 + 1) ≤ (a0.size : Int)) = true := decide_eq_true S2.2
                    clear S2
                    go_wp2_with (first | (go_at_call 39; (with_reducible refine (token_letter.calls (bt a0 x5) false _ AL.out).mono ?_); rintro e w' ⟨rfl, ⟨nd, rfl⟩⟩) | (go_at_call 41; (with_reducible refine (token_digit.calls (bt a0 x5) false _ AD.out).mono ?_); rintro e w' ⟨rfl, ⟨nd3, rfl⟩⟩) | (go_at_call 44; (with_reducible refine (strings_IndexByte.calls (⟨#[40, 41, 123, 125, 91, 93, 44, 61, 60, 43, 45, 42, 47, 37, 33]⟩ : ByteArray) (bt a0 x5) t _ AT.out).mono ?_); rintro e w' ⟨rfl, ⟨nd5, rfl⟩⟩) | (go_at_call 44; (with_reducible refine (strings_IndexByte.calls (⟨#[61, 60, 33]⟩ : ByteArray) (bt a0 x5) u _ AU.out).mono ?_); rintro e w' ⟨rfl, ⟨nd5, rfl⟩⟩))
                    go_region
                    all_goals go_wp2
                    all_goals (go_step3; go_step; go_step; refine hB _ _ ?_; (repeat apply Exists.intro); refine ⟨HN, ⟨Nat.le_refl _⟩, ?_, ?_, ?_, GW, HL, rfl⟩)
                    all_goals first | exact ⟨by (with_reducible repeat (first | refine blk_drewN ?_ _ | refine blk_drew ?_ | refine blk_alloc ?_ _)); exact (blk_set (blk_set BK.out 0 (.int .u8 4)) 1 (.string _))⟩ | exact ⟨by (with_reducible repeat (first | apply Kd.R_alloc | apply Kd.R_drewN | apply Kd.R_drew)); exact (Kd.R_far (p := ⟨gb, 1, none⟩) (Kd.R_far (p := ⟨gb, 0, none⟩) HO.out (fun _ h => h) _) (fun _ h => h) _)⟩ | exact ⟨by repeat (first | (with_reducible first | exact HB.out | apply below_alloc | apply pw_below_drewN | apply below_drew1 | refine below_set ?_ GW.out) | exact HB.out)⟩
                · rw [if_neg cE] at A
                  have cEb : decide (wrap64 (x5 + 1) < (a0.size : Int)) = false := decide_eq_false cE
                  clear cE
                  obtain rfl := Option.some.inj A
                  clear A
                  obtain ⟨HL, HN⟩ := ite_some HH.out
                  have HN := Aside0.mk HN
                  have HL := Aside0.mk HL
                  clear HH
                  have s1 := eq_true HX.out.1
                  have s1b : decide (0 ≤ x5) = true := decide_eq_true HX.out.1
                  have S2 : x5 ≤ wrap64 (x5 + 1) ∧ wrap64 (x5 + 1) ≤ (a0.size : Int) := by have := HX.out; rw [HE.out]; omega
                  have s2 := eq_true S2.1
                  have s3 := eq_true S2.2
                  have s2b : decide (x5 ≤ wrap64 (x5 + 1)) = true := decide_eq_true S2.1
                  have s3b : decide (wrap64 (x5 + 1) ≤ (a0.size : Int)) = true := decide_eq_true S2.2
                  clear S2
                  go_wp2_with (first | (go_at_call 39; (with_reducible refine (token_letter.calls (bt a0 x5) false _ AL.out).mono ?_); rintro e w' ⟨rfl, ⟨nd, rfl⟩⟩) | (go_at_call 41; (with_reducible refine (token_digit.calls (bt a0 x5) false _ AD.out).mono ?_); rintro e w' ⟨rfl, ⟨nd3, rfl⟩⟩) | (go_at_call 44; (with_reducible refine (strings_IndexByte.calls (⟨#[40, 41, 123, 125, 91, 93, 44, 61, 60, 43, 45, 42, 47, 37, 33]⟩ : ByteArray) (bt a0 x5) t _ AT.out).mono ?_); rintro e w' ⟨rfl, ⟨nd5, rfl⟩⟩) | (go_at_call 44; (with_reducible refine (strings_IndexByte.calls (⟨#[61, 60, 33]⟩ : ByteArray) (bt a0 x5) u _ AU.out).mono ?_); rintro e w' ⟨rfl, ⟨nd5, rfl⟩⟩))
                  go_region
                  all_goals go_wp2
                  all_goals (go_step3; go_step; go_step; refine hB _ _ ?_; (repeat apply Exists.intro); refine ⟨HN, ⟨Nat.le_refl _⟩, ?_, ?_, ?_, GW, HL, rfl⟩)
                  all_goals first | exact ⟨by (with_reducible repeat (first | refine blk_drewN ?_ _ | refine blk_drew ?_ | refine blk_alloc ?_ _)); exact (blk_set (blk_set BK.out 0 (.int .u8 4)) 1 (.string _))⟩ | exact ⟨by (with_reducible repeat (first | apply Kd.R_alloc | apply Kd.R_drewN | apply Kd.R_drew)); exact (Kd.R_far (p := ⟨gb, 1, none⟩) (Kd.R_far (p := ⟨gb, 0, none⟩) HO.out (fun _ h => h) _) (fun _ h => h) _)⟩ | exact ⟨by repeat (first | (with_reducible first | exact HB.out | apply below_alloc | apply pw_below_drewN | apply below_drew1 | refine below_set ?_ GW.out) | exact HB.out)⟩
              · rw [if_neg cu] at A
                have cub : decide (0 ≤ u) = false := decide_eq_false cu
                clear cu
                obtain rfl := Option.some.inj A
                clear A
                obtain ⟨HL, HN⟩ := ite_some HH.out
                have HN := Aside0.mk HN
                have HL := Aside0.mk HL
                clear HH
                have s1 := eq_true HX.out.1
                have s1b : decide (0 ≤ x5) = true := decide_eq_true HX.out.1
                have S2 : x5 ≤ wrap64 (x5 + 1) ∧ wrap64 (x5 + 1) ≤ (a0.size : Int) := by have := HX.out; rw [HE.out]; omega
                have s2 := eq_true S2.1
                have s3 := eq_true S2.2
                have s2b : decide (x5 ≤ wrap64 (x5 + 1)) = true := decide_eq_true S2.1
                have s3b : decide (wrap64 (x5 + 1) ≤ (a0.size : Int)) = true := decide_eq_true S2.2
                clear S2
                go_wp2_with (first | (go_at_call 39; (with_reducible refine (token_letter.calls (bt a0 x5) false _ AL.out).mono ?_); rintro e w' ⟨rfl, ⟨nd, rfl⟩⟩) | (go_at_call 41; (with_reducible refine (token_digit.calls (bt a0 x5) false _ AD.out).mono ?_); rintro e w' ⟨rfl, ⟨nd3, rfl⟩⟩) | (go_at_call 44; (with_reducible refine (strings_IndexByte.calls (⟨#[40, 41, 123, 125, 91, 93, 44, 61, 60, 43, 45, 42, 47, 37, 33]⟩ : ByteArray) (bt a0 x5) t _ AT.out).mono ?_); rintro e w' ⟨rfl, ⟨nd5, rfl⟩⟩) | (go_at_call 44; (with_reducible refine (strings_IndexByte.calls (⟨#[61, 60, 33]⟩ : ByteArray) (bt a0 x5) u _ AU.out).mono ?_); rintro e w' ⟨rfl, ⟨nd5, rfl⟩⟩))
                go_region
                all_goals go_wp2
                all_goals (go_step3; go_step; go_step; refine hB _ _ ?_; (repeat apply Exists.intro); refine ⟨HN, ⟨Nat.le_refl _⟩, ?_, ?_, ?_, GW, HL, rfl⟩)
                all_goals first | exact ⟨by (with_reducible repeat (first | refine blk_drewN ?_ _ | refine blk_drew ?_ | refine blk_alloc ?_ _)); exact (blk_set (blk_set BK.out 0 (.int .u8 4)) 1 (.string _))⟩ | exact ⟨by (with_reducible repeat (first | apply Kd.R_alloc | apply Kd.R_drewN | apply Kd.R_drew)); exact (Kd.R_far (p := ⟨gb, 1, none⟩) (Kd.R_far (p := ⟨gb, 0, none⟩) HO.out (fun _ h => h) _) (fun _ h => h) _)⟩ | exact ⟨by repeat (first | (with_reducible first | exact HB.out | apply below_alloc | apply pw_below_drewN | apply below_drew1 | refine below_set ?_ GW.out) | exact HB.out)⟩
          · rw [if_neg c5] at H
            exact absurd H (by simp)
        · rw [if_neg c4] at H
          have c4b0 : decide (x5 < (a0.size : Int)) = false := decide_eq_false c4
          clear c4
          simp only [Option.some.injEq, Prod.mk.injEq] at H
          obtain ⟨rfl, rfl, rfl⟩ := H
          go_wp2
          (try rw [Exit.noGoto_ret])
          go_ret3
          exact ⟨_, rfl, by (with_reducible repeat (first | apply Kd.R_alloc | apply Kd.R_drewN | apply Kd.R_drew)); exact HO.out, by repeat (first | (with_reducible first | exact HB.out | apply below_alloc | apply pw_below_drewN | apply below_drew1) | exact HB.out)⟩
end Go.Proofs.Ytlbchdalimngjaa.P
namespace Go.Proofs.Ytlbchdalimngjaa.P
open Go.RowKit Go.Proofs.YtlbchdalimngjaaW.PrintWords Go.Proofs.YtlbchdalimngjaaW.PrintLast Go.Proofs.YtlbchdalimngjaaW.PrintMore
open Go.Instr
attribute [local go_sem] mk_run mk_events max2_int min2_int max_two min_two max_three min_three max_four min_four
set_option linter.unusedVariables false
set_option linter.unusedSimpArgs false
theorem far_get {w5 : World} {bw bd : Nat} {ty : TypeId} {u : Value} (h : w5.heap[bd]? = some (.cells #[u] ty (0, 0))) (hn : bd ≠ bw) :
    (w5.setCell ⟨bw, 0, none⟩ (.int .i64 (-1))).cell? ⟨bd, 0, none⟩ = some u ∧ (w5.setCell ⟨bw, 0, none⟩ (.int .i64 (-1))).frozen? ⟨bd, 0, none⟩ = false :=
  ⟨(blk_cell (obj_far h hn) 0).trans rfl, blk_frozen (obj_far h hn) 0⟩
set_option maxHeartbeats 8000000 in
set_option maxRecDepth 100000 in
theorem chk_walk {w0 : World} {l : List S43} {A : Option Addr} {c bt b bm bw bd bk : Nat} (hl : l.length ≤ 2048) : ∀ (k : Nat) (at_ lv : Int) (mf : Nat) (mcap : List Value) (p : Int → Bool) (wg dp r1 r2 r3 : Int) (w : World),
    ChkEnv w0 w l A c bt b bm bw bd bk wg dp → Enters mf → May w bw bd mf mcap p → tree_Check.walk l k at_ lv p wg dp = some (r1, r2, r3) →
    Calls Try.prog 52 #[.int .i64 at_, .int .i64 lv, .func (.func mf) #[] mcap.toArray, .pointer (some ⟨bt, 0, none⟩), .pointer (some ⟨bw, 0, none⟩), .pointer (some ⟨bm, 0, none⟩), .pointer (some ⟨bd, 0, none⟩), .pointer (some ⟨bk, 0, none⟩)] w
      fun e w' => e = .returned (.int .i64 r1) ∧ ChkEnv w0 w' l A c bt b bm bw bd bk r2 r3 ∧ Kept w w' (chkS bw bd) := by
  intro k
  induction k using Nat.strongRecOn with
  | _ k ih0 =>
  have IH := Aside0.mk ih0
  clear ih0
  intro at_ lv mf mcap p wg dp r1 r2 r3 w henv hent hmay h
  have hu43 := Try.underlying43
  have hu73 := Try.underlying73
  have hum := Try.underlying68
  have huk := Try.underlying5
  have HL := Aside0.mk hl
  clear hl
  cases k with
  | zero => exact absurd h (by simp [tree_Check.walk])
  | succ k =>
  have HE := Aside0.mk henv
  have MAY := Aside0.mk hmay
  have hent' : ∀ (args : Array Value) (w : World), Sem.run Try.prog (callFunc mf args) w = .ok (.enter mf args) w := hent
  clear henv hmay hent
  rw [tree_Check.walk] at h
  obtain ⟨hct, hcm, hcw, hcd, hck, hfw, hfd⟩ := HE.out.get
  by_cases c1 : at_ < (l.length : Int)
  · rw [if_pos c1] at h
    have c1b : decide ((l.length : Int) ≤ at_) = false := decide_eq_false (by omega)
    have C1 := Aside0.mk c1
    clear c1
    by_cases c0 : 0 ≤ at_
    · rw [if_pos c0] at h
      have p0 := eq_true c0
      have q0 := eq_true C1.out
      obtain ⟨ad, hA, hcz0, hcz1, hcz2, hcz3⟩ := at_T43 (Kd.C_below HE.out.row HE.out.below) at_ c0 C1.out
      cases hA
      have HH := Aside0.mk h
      clear h
      have C0 := Aside0.mk c0
      clear c0
      go_enter Try.func52, Try.ntmps52
      go_upto_region 5 with (first | ((with_reducible refine gate_dst (N := 12) rfl ?_); refine box_event ?hg (N := 12) ?hd (cs := #[.int .u8 0, .int .i64 0, .int .i64 0, .string (⟨#[]⟩ : ByteArray)]) (t := 43) ?hr ?_; (case hd => rfl); (case hg => rfl); (case hr => first | (go_simp; done) | (go_simp; rfl)); intro bx hg w1 hbox hb; have hcb0 : w1.cell? ⟨bx, 0, none⟩ = some (.int .u8 0) := (blk_cell hbox 0).trans rfl; have hcb1 : w1.cell? ⟨bx, 1, none⟩ = some (.int .i64 0) := (blk_cell hbox 1).trans rfl; have hcb2 : w1.cell? ⟨bx, 2, none⟩ = some (.int .i64 0) := (blk_cell hbox 2).trans rfl; have hcb3 : w1.cell? ⟨bx, 3, none⟩ = some (.string (⟨#[]⟩ : ByteArray)) := (blk_cell hbox 3).trans rfl; have hfb0 := blk_frozen hbox 0; have hfb1 := blk_frozen hbox 1; have hfb2 := blk_frozen hbox 2; have hfb3 := blk_frozen hbox 3; have BX := Aside0.mk hbox; have BB := Aside0.mk hb; have GX := Aside0.mk hg; clear hbox hb hg))
      obtain ⟨x, hx⟩ : ∃ x, x = rd_T43 l at_ := ⟨_, rfl⟩
      rw [← hx] at HH ⊢
      obtain ⟨w2, hw2⟩ : ∃ w2 : World, w2 = (((w1.setCell ⟨bx, 0, none⟩ (.int .u8 x.f0)).setCell ⟨bx, 1, none⟩ (.int .i64 x.f1)).setCell ⟨bx, 2, none⟩ (.int .i64 x.f2)).setCell ⟨bx, 3, none⟩ (.string x.f3) := ⟨_, rfl⟩
      have hgx : w.heap.size ≤ bx := by rw [GX.out]; exact Nat.le_refl _
      have BB2 : Below w.heap.size w w2 := by rw [hw2]; exact below_set (below_set (below_set (below_set BB.out hgx) hgx) hgx) hgx
      have BX2 : w2.heap[bx]? = some (.cells #[.int .u8 x.f0, .int .i64 x.f1, .int .i64 x.f2, .string x.f3] 43 (0, 0)) := by rw [hw2]; exact blk_set (blk_set (blk_set (blk_set BX.out 0 _) 1 _) 2 _) 3 _
      rw [← hw2]
      have HE2 := Aside0.mk (HE.out.move BB2)
      have KP := Aside0.mk (Below.chk (bw := bw) (bd := bd) BB2)
      clear hw2 hcb0 hcb1 hcb2 hcb3 hfb0 hfb1 hfb2 hfb3 BX BB w1 hcz0 hcz1 hcz2 hcz3 hct hcm hcw hcd hck hfw hfd
      have OBX := Aside0.mk (show bk < bx by rw [GX.out]; exact HE.out.lt)
      have NBX := Aside0.mk (show ¬ chkS bw bd bx by have := HE.out.ord; have := OBX.out; unfold chkS; omega)
      clear HE hx BB2 c1b
      have HE := HE2
      clear HE2
      have BX := Aside0.mk BX2
      clear BX2
      obtain ⟨hct, hcm, hcw, hcd, hck, hfw, hfd⟩ := HE.out.get
      have hcx0 : w2.cell? ⟨bx, 0, none⟩ = some (.int .u8 x.f0) := (blk_cell BX.out 0).trans rfl
      have hcx1 : w2.cell? ⟨bx, 1, none⟩ = some (.int .i64 x.f1) := (blk_cell BX.out 1).trans rfl
      have hcx2 : w2.cell? ⟨bx, 2, none⟩ = some (.int .i64 x.f2) := (blk_cell BX.out 2).trans rfl
      have hcx3 : w2.cell? ⟨bx, 3, none⟩ = some (.string x.f3) := (blk_cell BX.out 3).trans rfl
      cases hform : formOf x.f0 with
      | none =>
        have H := HH.out
        clear HH
        rw [tree_Check.bad, hform] at H
        simp only [Option.bind_some, if_true, Option.some.injEq, Prod.mk.injEq] at H
        obtain ⟨rfl, rfl, rfl⟩ := H
        have HF := Aside0.mk (form_not hform)
        clear hform
        go_upto_region 6 with (first | ((with_reducible refine gate_lookup rfl ?_); refine map_not rfl _ _ rfl hum huk rfl rfl HE.out.hb _ (form_zero _) HF.out ?_) | ((with_reducible refine gate_dst (N := 13) rfl ?_); refine box_event ?hg (N := 13) ?hd (cs := #[.nilFunc, .int .i64 0, .int .i64 0, .nilFunc]) (t := 73) ?hr ?_; (case hd => rfl); (case hg => rfl); (case hr => first | (go_simp; done) | (go_simp; rfl)); intro bf hg w1 hbox hb; have hce0 : w1.cell? ⟨bf, 0, none⟩ = some .nilFunc := (blk_cell hbox 0).trans rfl; have hce1 : w1.cell? ⟨bf, 1, none⟩ = some (.int .i64 0) := (blk_cell hbox 1).trans rfl; have hce2 : w1.cell? ⟨bf, 2, none⟩ = some (.int .i64 0) := (blk_cell hbox 2).trans rfl; have hce3 : w1.cell? ⟨bf, 3, none⟩ = some .nilFunc := (blk_cell hbox 3).trans rfl; have hfe0 := blk_frozen hbox 0; have hfe1 := blk_frozen hbox 1; have hfe2 := blk_frozen hbox 2; have hfe3 := blk_frozen hbox 3; have BF := Aside0.mk hbox; have BB := Aside0.mk hb; have GF := Aside0.mk hg; clear hbox hb hg))
        obtain ⟨w3, hw3⟩ : ∃ w3 : World, w3 = (((w1.setCell ⟨bf, 0, none⟩ (.nilFunc)).setCell ⟨bf, 1, none⟩ (.int .i64 0)).setCell ⟨bf, 2, none⟩ (.int .i64 0)).setCell ⟨bf, 3, none⟩ (.nilFunc) := ⟨_, rfl⟩
        have hgf : w2.heap.size ≤ bf := by rw [GF.out]; exact Nat.le_refl _
        have BB3 : Below w2.heap.size w2 w3 := by rw [hw3]; exact below_set (below_set (below_set (below_set BB.out hgf) hgf) hgf) hgf
        have BF3 : w3.heap[bf]? = some (.cells #[.nilFunc, .int .i64 0, .int .i64 0, .nilFunc] 73 (0, 0)) := by rw [hw3]; exact blk_set (blk_set (blk_set (blk_set BF.out 0 _) 1 _) 2 _) 3 _
        rw [← hw3]
        have HE3 := Aside0.mk (HE.out.move BB3)
        have KP3 := Aside0.mk (KP.out.below BB3)
        have BX3 := Aside0.mk (blk_below BX.out BB3)
        have OBF := Aside0.mk (show bx < bf by rw [GF.out]; exact blk_lt BX.out)
        have NBF := Aside0.mk (show ¬ chkS bw bd bf by have := HE.out.ord; have := OBX.out; have := OBF.out; unfold chkS; omega)
        clear hw3 hce0 hce1 hce2 hce3 hfe0 hfe1 hfe2 hfe3 BF BB w1 hcx0 hcx1 hcx2 hcx3 hct hcm hcw hcd hck hfw hfd HE KP BX hgf BB3 GF
        have HE := HE3
        have KP := KP3
        have BX := BX3
        have BF := Aside0.mk BF3
        clear HE3 KP3 BX3 BF3
        obtain ⟨hct, hcm, hcw, hcd, hck, hfw, hfd⟩ := HE.out.get
        have hcx0 : w3.cell? ⟨bx, 0, none⟩ = some (.int .u8 x.f0) := (blk_cell BX.out 0).trans rfl
        have hcx1 : w3.cell? ⟨bx, 1, none⟩ = some (.int .i64 x.f1) := (blk_cell BX.out 1).trans rfl
        have hcx2 : w3.cell? ⟨bx, 2, none⟩ = some (.int .i64 x.f2) := (blk_cell BX.out 2).trans rfl
        have hcx3 : w3.cell? ⟨bx, 3, none⟩ = some (.string x.f3) := (blk_cell BX.out 3).trans rfl
        go_wp2
        go_ret
        exact ⟨rfl, HE.out.setw _, KP.out.setCell (.inl (.inl rfl)) _⟩
      | some f =>
        obtain ⟨fj, hfind⟩ := form_has hform
        have HF := Aside0.mk hfind
        clear hfind
        have HFORM := Aside0.mk hform
        have H := HH.out
        clear HH
        rw [tree_Check.bad, hform] at H
        clear hform
        have HH := Aside0.mk H
        clear H
        go_upto_region 6 with (first | ((with_reducible refine gate_lookup rfl ?_); refine map_has rfl _ _ rfl hum huk rfl rfl HE.out.hb fj (.agg #[.func (.func f.tx) #[] #[], .int .i64 f.le, .int .i64 f.mo, .func (.func f.pt) #[] #[]]) HF.out ?_) | ((with_reducible refine gate_dst (N := 13) rfl ?_); refine box_event ?hg (N := 13) ?hd (cs := #[.nilFunc, .int .i64 0, .int .i64 0, .nilFunc]) (t := 73) ?hr ?_; (case hd => rfl); (case hg => rfl); (case hr => first | (go_simp; done) | (go_simp; rfl)); intro bf hg w1 hbox hb; have hce0 : w1.cell? ⟨bf, 0, none⟩ = some .nilFunc := (blk_cell hbox 0).trans rfl; have hce1 : w1.cell? ⟨bf, 1, none⟩ = some (.int .i64 0) := (blk_cell hbox 1).trans rfl; have hce2 : w1.cell? ⟨bf, 2, none⟩ = some (.int .i64 0) := (blk_cell hbox 2).trans rfl; have hce3 : w1.cell? ⟨bf, 3, none⟩ = some .nilFunc := (blk_cell hbox 3).trans rfl; have hfe0 := blk_frozen hbox 0; have hfe1 := blk_frozen hbox 1; have hfe2 := blk_frozen hbox 2; have hfe3 := blk_frozen hbox 3; have BF := Aside0.mk hbox; have BB := Aside0.mk hb; have GF := Aside0.mk hg; clear hbox hb hg))
        obtain ⟨w3, hw3⟩ : ∃ w3 : World, w3 = (((w1.setCell ⟨bf, 0, none⟩ (.func (.func f.tx) #[] #[])).setCell ⟨bf, 1, none⟩ (.int .i64 f.le)).setCell ⟨bf, 2, none⟩ (.int .i64 f.mo)).setCell ⟨bf, 3, none⟩ (.func (.func f.pt) #[] #[]) := ⟨_, rfl⟩
        have hgf : w2.heap.size ≤ bf := by rw [GF.out]; exact Nat.le_refl _
        have BB3 : Below w2.heap.size w2 w3 := by rw [hw3]; exact below_set (below_set (below_set (below_set BB.out hgf) hgf) hgf) hgf
        have BF3 : w3.heap[bf]? = some (.cells #[.func (.func f.tx) #[] #[], .int .i64 f.le, .int .i64 f.mo, .func (.func f.pt) #[] #[]] 73 (0, 0)) := by rw [hw3]; exact blk_set (blk_set (blk_set (blk_set BF.out 0 _) 1 _) 2 _) 3 _
        rw [← hw3]
        have HE3 := Aside0.mk (HE.out.move BB3)
        have KP3 := Aside0.mk (KP.out.below BB3)
        have BX3 := Aside0.mk (blk_below BX.out BB3)
        have OBF := Aside0.mk (show bx < bf by rw [GF.out]; exact blk_lt BX.out)
        have NBF := Aside0.mk (show ¬ chkS bw bd bf by have := HE.out.ord; have := OBX.out; have := OBF.out; unfold chkS; omega)
        clear hw3 hce0 hce1 hce2 hce3 hfe0 hfe1 hfe2 hfe3 BF BB w1 hcx0 hcx1 hcx2 hcx3 hct hcm hcw hcd hck hfw hfd HE KP BX hgf BB3 GF
        have HE := HE3
        have KP := KP3
        have BX := BX3
        have BF := Aside0.mk BF3
        clear HE3 KP3 BX3 BF3
        obtain ⟨hct, hcm, hcw, hcd, hck, hfw, hfd⟩ := HE.out.get
        have hcx0 : w3.cell? ⟨bx, 0, none⟩ = some (.int .u8 x.f0) := (blk_cell BX.out 0).trans rfl
        have hcx1 : w3.cell? ⟨bx, 1, none⟩ = some (.int .i64 x.f1) := (blk_cell BX.out 1).trans rfl
        have hcx2 : w3.cell? ⟨bx, 2, none⟩ = some (.int .i64 x.f2) := (blk_cell BX.out 2).trans rfl
        have hcx3 : w3.cell? ⟨bx, 3, none⟩ = some (.string x.f3) := (blk_cell BX.out 3).trans rfl
        have hcf0 : w3.cell? ⟨bf, 0, none⟩ = some (.func (.func f.tx) #[] #[]) := (blk_cell BF.out 0).trans rfl
        have hcf1 : w3.cell? ⟨bf, 1, none⟩ = some (.int .i64 f.le) := (blk_cell BF.out 1).trans rfl
        have hcf2 : w3.cell? ⟨bf, 2, none⟩ = some (.int .i64 f.mo) := (blk_cell BF.out 2).trans rfl
        have H := HH.out
        clear HH
        dsimp only at H
        obtain ⟨bv, H1, H⟩ := Option.bind_eq_some_iff.mp H
        have HB1 := Aside0.mk H1
        have HH := Aside0.mk H
        clear H H1
        go_cut [80] (fun v80 wc => v80 = .bool bv ∧ ∃ n, wc = w3.drewN n)
        case first =>
          have H1 := HB1.out
          clear HB1 HH
          by_cases hp : p x.f0 = true
          · rw [if_pos hp] at H1
            obtain ⟨t, HT, H1⟩ := Option.bind_eq_some_iff.mp H1
            have hentT : ∀ (args : Array Value) (w : World), Sem.run Try.prog (callFunc f.tx args) w = .ok (.enter f.tx args) w := text_enters HT
            have HT := Aside0.mk HT
            cases t with
            | false =>
              simp only [Bool.false_eq_true, if_false, Option.some.injEq] at H1
              obtain rfl := H1
              go_wp2_with (first | ((with_reducible refine (text_calls _ HT.out).mono ?_); rintro e w' ⟨rfl, ⟨nd2, rfl⟩⟩) | ((with_reducible refine (may_at MAY.out ?kp _).mono ?_); (case kp => exact KP.out); rintro e w' ⟨rfl, ⟨nd, rfl⟩⟩))
              go_meet
              case rel => exact ⟨by first | rfl | (simp; done) | (simp [*]; done), ⟨_, by first | rfl | exact (World.drewN_drewN _ _ _)⟩⟩
            | true =>
              rw [if_pos rfl] at H1
              by_cases cA : x.f1 < f.le
              · rw [if_pos cA] at H1
                obtain rfl := Option.some.inj H1
                clear H1
                have cAb : decide (x.f1 < f.le) = true := decide_eq_true cA
                clear cA
                go_wp2_with (first | ((with_reducible refine (text_calls _ HT.out).mono ?_); rintro e w' ⟨rfl, ⟨nd2, rfl⟩⟩) | ((with_reducible refine (may_at MAY.out ?kp _).mono ?_); (case kp => exact KP.out); rintro e w' ⟨rfl, ⟨nd, rfl⟩⟩))
                go_meet
                case rel => exact ⟨by first | rfl | (simp; done) | (simp [*]; done), ⟨_, by first | rfl | exact (World.drewN_drewN _ _ _)⟩⟩
              rw [if_neg cA] at H1
              have cAb : decide (x.f1 < f.le) = false := decide_eq_false cA
              clear cA
              by_cases cB : x.f1 > f.mo
              · rw [if_pos cB] at H1
                obtain rfl := Option.some.inj H1
                clear H1
                have cBb : decide (f.mo < x.f1) = true := decide_eq_true cB
                clear cB
                go_wp2_with (first | ((with_reducible refine (text_calls _ HT.out).mono ?_); rintro e w' ⟨rfl, ⟨nd2, rfl⟩⟩) | ((with_reducible refine (may_at MAY.out ?kp _).mono ?_); (case kp => exact KP.out); rintro e w' ⟨rfl, ⟨nd, rfl⟩⟩))
                go_meet
                case rel => exact ⟨by first | rfl | (simp; done) | (simp [*]; done), ⟨_, by first | rfl | exact (World.drewN_drewN _ _ _)⟩⟩
              rw [if_neg cB] at H1
              have cBb : decide (f.mo < x.f1) = false := decide_eq_false cB
              clear cB
              by_cases cC : x.f0 = 23
              · rw [if_pos cC] at H1
                have cCb : (x.f0 != 23) = false := bne_eq_false_iff_eq.mpr cC
                have cCc : (x.f0 == 23) = true := beq_iff_eq.mpr cC
                clear cC
                obtain rfl := Option.some.inj H1
                clear H1
                go_wp2_with (first | ((with_reducible refine (text_calls _ HT.out).mono ?_); rintro e w' ⟨rfl, ⟨nd2, rfl⟩⟩) | ((with_reducible refine (may_at MAY.out ?kp _).mono ?_); (case kp => exact KP.out); rintro e w' ⟨rfl, ⟨nd, rfl⟩⟩))
                go_meet
                case rel => exact ⟨by first | rfl | (simp; done) | (simp [*]; done), ⟨_, by first | rfl | exact (World.drewN_drewN _ _ _)⟩⟩
              · rw [if_neg cC] at H1
                have cCb : (x.f0 != 23) = true := bne_iff_ne.mpr cC
                have cCc : (x.f0 == 23) = false := beq_eq_false_iff_ne.mpr cC
                clear cC
                by_cases cD : x.f2 = 0
                · rw [if_pos cD] at H1
                  obtain rfl := Option.some.inj H1
                  clear H1
                  have cDb : (x.f2 != 0) = false := bne_eq_false_iff_eq.mpr cD
                  have cDc : (x.f2 == 0) = true := beq_iff_eq.mpr cD
                  have cDd : decide (x.f2 < 0) = false := decide_eq_false (by omega)
                  clear cD
                  go_wp2_with (first | ((with_reducible refine (text_calls _ HT.out).mono ?_); rintro e w' ⟨rfl, ⟨nd2, rfl⟩⟩) | ((with_reducible refine (may_at MAY.out ?kp _).mono ?_); (case kp => exact KP.out); rintro e w' ⟨rfl, ⟨nd, rfl⟩⟩))
                  go_meet
                  case rel => exact ⟨by first | rfl | (simp; done) | (simp [*]; done), ⟨_, by first | rfl | exact (World.drewN_drewN _ _ _)⟩⟩
                · rw [if_neg cD] at H1
                  obtain rfl := Option.some.inj H1
                  clear H1
                  have cDb : (x.f2 != 0) = true := bne_iff_ne.mpr cD
                  have cDc : (x.f2 == 0) = false := beq_eq_false_iff_ne.mpr cD
                  clear cD
                  go_wp2_with (first | ((with_reducible refine (text_calls _ HT.out).mono ?_); rintro e w' ⟨rfl, ⟨nd2, rfl⟩⟩) | ((with_reducible refine (may_at MAY.out ?kp _).mono ?_); (case kp => exact KP.out); rintro e w' ⟨rfl, ⟨nd, rfl⟩⟩))
                  go_meet
                  case rel => exact ⟨by first | rfl | (simp; done) | (simp [*]; done), ⟨_, by first | rfl | exact (World.drewN_drewN _ _ _)⟩⟩
          · rw [if_neg hp] at H1
            have hp2 : p x.f0 = false := Bool.eq_false_iff.mpr hp
            clear hp
            obtain rfl := Option.some.inj H1
            clear H1
            go_wp2_with (first | ((with_reducible refine (text_calls _ HT.out).mono ?_); rintro e w' ⟨rfl, ⟨nd2, rfl⟩⟩) | ((with_reducible refine (may_at MAY.out ?kp _).mono ?_); (case kp => exact KP.out); rintro e w' ⟨rfl, ⟨nd, rfl⟩⟩))
            go_meet
            case rel => exact ⟨by first | rfl | (simp; done) | (simp [*]; done), ⟨_, by first | rfl | exact (World.drewN_drewN _ _ _)⟩⟩
        case rest =>
          obtain ⟨rfl, n, rfl⟩ := hcut
          have H := HH.out
          clear HH HB1
          cases bv with
          | true =>
            simp only [if_true, Option.some.injEq, Prod.mk.injEq] at H
            obtain ⟨rfl, rfl, rfl⟩ := H
            go_wp2
            go_ret
            exact ⟨rfl, (HE.out.move (pw_below_drewN (Below.refl _ _) n)).setw _, (KP.out.drewN n).setCell (.inl (.inl rfl)) _⟩
          | false =>
            simp only [Bool.false_eq_true, if_false] at H
            obtain ⟨w4, hw4⟩ : ∃ w4 : World, w4 = w3.drewN n := ⟨_, rfl⟩
            have BB4 : Below w3.heap.size w3 w4 := by rw [hw4]; exact pw_below_drewN (Below.refl _ _) n
            rw [← hw4]
            have HE4 := Aside0.mk (HE.out.move BB4)
            have KP4 := Aside0.mk (KP.out.below BB4)
            have BX4 := Aside0.mk (blk_below BX.out BB4)
            have BF4 := Aside0.mk (blk_below BF.out BB4)
            clear hw4 BB4 HE KP BX BF hcf0 hcf1 hcf2 hcx0 hcx1 hcx2 hcx3 hct hcm hcw hcd hck hfw hfd
            obtain ⟨hct, hcm, hcw, hcd, hck, hfw, hfd⟩ := HE4.out.get
            have HH := Aside0.mk H
            clear H
            go_upto_region 9 with (fail)
            go_cut [88] (fun v88 wc => v88 = .bool (decide (40 < lv) && decide (dp < 0)) ∧ w4 = wc)
            case first =>
              by_cases cL : 40 < lv
              · have cLb : decide (40 < lv) = true := decide_eq_true cL
                clear cL
                by_cases cD : dp < 0
                · have cDb : decide (dp < 0) = true := decide_eq_true cD
                  clear cD
                  go_wp2
                  go_meet
                  case rel => exact ⟨by first | rfl | (simp; done) | (simp [*]; done), rfl⟩
                · have cDb : decide (dp < 0) = false := decide_eq_false cD
                  clear cD
                  go_wp2
                  go_meet
                  case rel => exact ⟨by first | rfl | (simp; done) | (simp [*]; done), rfl⟩
              · have cLb : decide (40 < lv) = false := decide_eq_false cL
                clear cL
                go_wp2
                go_meet
                case rel => exact ⟨by first | rfl | (simp; done) | (simp [*]; done), rfl⟩
            case rest =>
            obtain ⟨rfl, rfl⟩ := hcut
            obtain ⟨dq, hdq⟩ : ∃ dq : Int, dq = if lv > 40 then if dp < 0 then at_ else dp else dp := ⟨_, rfl⟩
            rw [← hdq] at HH
            have hbl : dq = if (decide (40 < lv) && decide (dp < 0)) = true then at_ else dp := by
              rw [hdq]
              by_cases cL : 40 < lv <;> by_cases cD : dp < 0 <;> simp [cL, cD]
            clear hdq
            revert hbl
            generalize (decide (40 < lv) && decide (dp < 0)) = bl
            intro hbl
            have HBL := Aside0.mk hbl
            clear hbl
            go_upto_if 88 with (fail)
            go_cut [] (fun wc => ChkEnv w0 wc l (some ad) c bt b bm bw bd bk wg dq ∧ Kept w4 wc (chkS bw bd))
            case first =>
              cases bl with
              | true =>
                have hq := HBL.out
                rw [if_pos rfl] at hq
                subst hq
                go_wp2
                go_meet
                case rel => exact ⟨HE4.out.setd _, (Kept.refl _ _).setCell (.inl (.inr rfl)) _⟩
              | false =>
                have hq := HBL.out
                rw [if_neg Bool.false_ne_true] at hq
                subst hq
                go_wp2
                go_meet
                case rel => exact ⟨HE4.out, Kept.refl _ _⟩
            case rest =>
            have HE := Aside0.mk hcut.1
            have HK := Aside0.mk hcut.2
            clear hcut
            have KP := Aside0.mk (KP4.out.then_ HK.out (fun _ h => .inl h))
            have BX := Aside0.mk (blk_kept BX4.out HK.out NBX.out)
            have BF := Aside0.mk (blk_kept BF4.out HK.out NBF.out)
            clear HE4 KP4 BX4 BF4 HK hct hcm hcw hcd hck hfw hfd HBL
            obtain ⟨hct, hcm, hcw, hcd, hck, hfw, hfd⟩ := HE.out.get
            go_upto_region 12 with (fail)
            have X1 : Aside0 True := ⟨trivial⟩
            go_upto_block 0 with ((with_reducible refine gate_dst (N := 16) rfl ?_); refine box_event ?hg (N := 16) ?hd (cs := #[.int .i64 0]) (t := 3) ?hr ?_; (case hd => rfl); (case hg => rfl); (case hr => first | (go_simp; done) | (go_simp; rfl)); intro bi hg w1 hbox hb; have hce0 : w1.cell? ⟨bi, 0, none⟩ = some (.int .i64 0) := (blk_cell hbox 0).trans rfl; have hfe0 := blk_frozen hbox 0; have BI := Aside0.mk hbox; have BB := Aside0.mk hb; have GI := Aside0.mk hg; clear hbox hb hg)
            obtain ⟨w5, hw5⟩ : ∃ w5 : World, w5 = w1.setCell ⟨bi, 0, none⟩ (.int .i64 0) := ⟨_, rfl⟩
            rw [← hw5]
            have hgi : wc.heap.size ≤ bi := by rw [GI.out]; exact Nat.le_refl _
            have BB5 : Below wc.heap.size wc w5 := by rw [hw5]; exact below_set BB.out hgi
            have BI5 : w5.heap[bi]? = some (.cells #[.int .i64 0] 3 (0, 0)) := by rw [hw5]; exact blk_set BI.out 0 _
            have HE5 := Aside0.mk (HE.out.move BB5)
            have KP5 := Aside0.mk (KP.out.below BB5)
            have BX5 := Aside0.mk (blk_below BX.out BB5)
            have BF5 := Aside0.mk (blk_below BF.out BB5)
            have OBI := Aside0.mk (show bf < bi by have := blk_lt BF.out; omega)
            have LBI := Aside0.mk (show w.heap.size ≤ bi by have := KP.out.1; omega)
            have BI6 := Aside0.mk BI5
            clear hw5 hce0 hfe0 BI BB w1 HE KP BX BF hgi BB5 BI5 GI hct hcm hcw hcd hck hfw hfd X1
            go_wp2
            go_loopg [15, 16] k (fun kq v15 v16 wq => ∃ (nx i wg' dp' : Int) (bi : Nat), v15 = .int .i64 nx ∧ v16 = .pointer (some ⟨bi, 0, none⟩) ∧ Aside0 (tree_Check.kids l kq x nx lv i wg' dp' = some (r1, r2, r3)) ∧ Aside0 (kq ≤ k) ∧ Aside0 (ChkEnv w0 wq l (some ad) c bt b bm bw bd bk wg' dp') ∧ Aside0 (Kept w wq (chkS bw bd)) ∧ Aside0 (wq.heap[bi]? = some (.cells #[.int .i64 i] 3 (0, 0))) ∧ Aside0 (bf < bi) ∧ Aside0 (w.heap.size ≤ bi) ∧ Aside0 (wq.heap[bx]? = some (.cells #[.int .u8 x.f0, .int .i64 x.f1, .int .i64 x.f2, .string x.f3] 43 (0, 0))) ∧ Aside0 (wq.heap[bf]? = some (.cells #[.func (.func f.tx) #[] #[], .int .i64 f.le, .int .i64 f.mo, .func (.func f.pt) #[] #[]] 73 (0, 0))))
            case atStart => exact ⟨_, _, _, _, bi, rfl, rfl, HH, ⟨Nat.le_refl _⟩, HE5, KP5, BI6, OBI, LBI, BX5, BF5⟩
            case round =>
              clear HH HE5 KP5 BI6 OBI LBI BX5 BF5
              clear bi w5
              obtain ⟨nx, i, wg', dp', bi, rfl, rfl, HH, HKQ, HE, KP, BI, OBI, LBI, BX, BF⟩ := hrel
              cases gk with
              | zero => exact absurd HH.out (by simp [tree_Check.kids])
              | succ kq =>
                have H := HH.out
                clear HH
                rw [tree_Check.kids] at H
                obtain ⟨hct, hcm, hcw, hcd, hck, hfw, hfd⟩ := HE.out.get
                have hcx1 : wr.cell? ⟨bx, 1, none⟩ = some (.int .i64 x.f1) := (blk_cell BX.out 1).trans rfl
                have hci : wr.cell? ⟨bi, 0, none⟩ = some (.int .i64 i) := (blk_cell BI.out 0).trans rfl
                by_cases ci : i < x.f1
                · rw [if_pos ci] at H
                  have cib : decide (i < x.f1) = true := decide_eq_true ci
                  clear ci
                  by_cases cw : wg' < 0
                  · rw [if_pos cw] at H
                    have cwb : decide (wg' < 0) = true := decide_eq_true cw
                    clear cw
                    obtain ⟨⟨q1, q2, q3⟩, HW, H⟩ := Option.bind_eq_some_iff.mp H
                    have NBI := Aside0.mk (show ¬ chkS bw bd bi by have := HE.out.ord; have := OBX.out; have := OBF.out; have := OBI.out; unfold chkS; omega)
                    have CALL := Aside0.mk (IH.out kq (by have := HKQ.out; omega) _ _ _ _ _ _ _ _ _ _ wr HE.out enters_one (may_one HFORM.out BF.out BI.out BX.out NBF.out NBI.out NBX.out) HW)
                    have HH := Aside0.mk H
                    clear H HW
                    have hent2 : ∀ (args : Array Value) (w : World), Sem.run Try.prog (callFunc 52 args) w = .ok (.enter 52 args) w := enters_walk
                    go_upto_region 16 with ((with_reducible refine CALL.out.mono ?_); rintro e wn ⟨rfl, HE2, KP2⟩; have HE3 := Aside0.mk HE2; have KP3 := Aside0.mk KP2; have hcj : wn.cell? ⟨bi, 0, none⟩ = some (.int .i64 i) := (blk_cell (blk_kept BI.out KP2 NBI.out) 0).trans rfl; clear HE2 KP2)
                    have BX3 := Aside0.mk (blk_kept BX.out KP3.out NBX.out)
                    have BF3 := Aside0.mk (blk_kept BF.out KP3.out NBF.out)
                    have KPN := Aside0.mk (KP.out.then_ KP3.out (fun _ h => .inl h))
                    clear hct hcm hcw hcd hck hfw hfd hcx1 hci cib cwb hent2 CALL BX BF HE KP BI
                    go_wp2_with ((with_reducible refine gate_dst (N := 16) rfl ?_); refine box_event ?hg (N := 16) ?hd (cs := #[.int .i64 0]) (t := 3) ?hr ?_; (case hd => rfl); (case hg => rfl); (case hr => first | (go_simp; done) | (go_simp; rfl)); intro bj hg w1 hbox hb; have hce0 : w1.cell? ⟨bj, 0, none⟩ = some (.int .i64 0) := (blk_cell hbox 0).trans rfl; have hfe0 := blk_frozen hbox 0; have BJ := Aside0.mk hbox; have BB := Aside0.mk hb; have GJ := Aside0.mk hg; clear hbox hb hg)
                    obtain ⟨w5, hw5⟩ : ∃ w5 : World, w5 = (w1.setCell ⟨bj, 0, none⟩ (.int .i64 i)).setCell ⟨bj, 0, none⟩ (.int .i64 (wrap64 (i + 1))) := ⟨_, rfl⟩
                    have hgi : wn.heap.size ≤ bj := by rw [GJ.out]; exact Nat.le_refl _
                    have BB5 : Below wn.heap.size wn w5 := by rw [hw5]; exact below_set (below_set BB.out hgi) hgi
                    have BI5 : w5.heap[bj]? = some (.cells #[.int .i64 (wrap64 (i + 1))] 3 (0, 0)) := by rw [hw5]; exact blk_set (blk_set BJ.out 0 _) 0 _
                    first | rw [← hw5] | skip
                    go_roundg kq
                    case measure => omega
                    case rel => exact ⟨_, _, _, _, bj, rfl, rfl, HH, ⟨by have := HKQ.out; omega⟩, ⟨HE3.out.move BB5⟩, ⟨KPN.out.below BB5⟩, ⟨BI5⟩, ⟨by have := blk_lt BF3.out; omega⟩, ⟨by have := KPN.out.1; omega⟩, ⟨blk_below BX3.out BB5⟩, ⟨blk_below BF3.out BB5⟩⟩
                  · rw [if_neg cw] at H
                    have cwb : decide (wg' < 0) = false := decide_eq_false cw
                    clear cw
                    simp only [Option.some.injEq, Prod.mk.injEq] at H
                    obtain ⟨rfl, rfl, rfl⟩ := H
                    go_wp2
                    go_ret
                    exact ⟨rfl, HE.out, KP.out⟩
                · rw [if_neg ci] at H
                  have cib : decide (i < x.f1) = false := decide_eq_false ci
                  clear ci
                  simp only [Option.some.injEq, Prod.mk.injEq] at H
                  obtain ⟨rfl, rfl, rfl⟩ := H
                  go_wp2
                  go_ret
                  exact ⟨rfl, HE.out, KP.out⟩
    · rw [if_neg c0] at h
      cases h
  · rw [if_neg c1] at h
    have c1b : decide ((l.length : Int) ≤ at_) = true := decide_eq_true (by omega)
    clear c1
    simp only [Option.some.injEq, Prod.mk.injEq] at h
    obtain ⟨rfl, rfl, rfl⟩ := h
    go_enter Try.func52, Try.ntmps52
    go_wp2
    go_ret
    exact ⟨rfl, HE.out.setw _, (Kept.refl _ _).setCell (.inl (.inl rfl)) _⟩
set_option maxHeartbeats 8000000 in
set_option maxRecDepth 100000 in
theorem tree_Check.calls (k : Nat) (A0 : Option Addr) (c0 : Nat) (l0 : List S43) (r1 r2 : Int) (w : World) (hr0 : Kd.C k43 w A0 l0.length l0) (hc0 : l0.length ≤ c0) (h : tree_Check.f k l0 = some (r1, r2)) :
    Calls Try.prog 32 #[.slice A0 l0.length c0] w fun e w' => e = .returned (.tuple #[.int .i64 r1, .int .i64 r2]) ∧ Below w.heap.size w w' := by
  unfold tree_Check.f at h
  have HR := Aside0.mk hr0
  have HC := Aside0.mk hc0
  clear hr0 hc0
  have hu36 := Try.underlying36
  by_cases cl : (l0.length : Int) > 2048
  · rw [if_pos cl] at h
    have clb : decide (2048 < (l0.length : Int)) = true := decide_eq_true cl
    clear cl
    simp only [Option.some.injEq, Prod.mk.injEq] at h
    obtain ⟨rfl, rfl⟩ := h
    go_enter Try.func32, Try.ntmps32
    go_wp2_with ((with_reducible refine gate_dst (N := 1) rfl ?_); refine box_event ?hg (N := 1) ?hd (cs := #[.slice A0 l0.length c0]) (t := 36) ?hr ?_; (case hd => rfl); (case hg => rfl); (case hr => first | (go_simp; done) | (go_simp; rfl)); intro bt hg1 w1 hbox1 hb1; have hc1 : w1.cell? ⟨bt, 0, none⟩ = some (.slice A0 l0.length c0) := (blk_cell hbox1 0).trans rfl; have hf1 := blk_frozen hbox1 0; have BO1 := Aside0.mk hbox1; have BB1 := Aside0.mk hb1; have GG1 := Aside0.mk hg1; clear hbox1 hb1 hg1)
    go_ret2
    exact ⟨rfl, BB1.out⟩
  rw [if_neg cl] at h
  have HL := Aside0.mk (show l0.length ≤ 2048 by omega)
  have clb : decide (2048 < (l0.length : Int)) = false := decide_eq_false cl
  clear cl
  obtain ⟨⟨q1, q2, q3⟩, HW, H⟩ := Option.bind_eq_some_iff.mp h
  have HWA := Aside0.mk HW
  have HH := Aside0.mk H
  clear h HW H
  go_enter Try.func32, Try.ntmps32
  go_upto_region 3 with ((with_reducible refine gate_dst (N := 1) rfl ?_); refine box_event ?hg (N := 1) ?hd (cs := #[.slice A0 l0.length c0]) (t := 36) ?hr ?_; (case hd => rfl); (case hg => rfl); (case hr => first | (go_simp; done) | (go_simp; rfl)); intro bt hg1 w1 hbox1 hb1; have hc1 : w1.cell? ⟨bt, 0, none⟩ = some (.slice A0 l0.length c0) := (blk_cell hbox1 0).trans rfl; have hf1 := blk_frozen hbox1 0; have BO1 := Aside0.mk hbox1; have BB1 := Aside0.mk hb1; have GG1 := Aside0.mk hg1; clear hbox1 hb1 hg1)
  go_upto_region 4 with (first | ((with_reducible refine (tree_forms.calls _).mono ?_); rintro e wf ⟨b, rfl, hfb, hbl, hgb⟩; have FB := Aside0.mk hfb; have FL := Aside0.mk hbl; have FG := Aside0.mk hgb; clear hfb hbl hgb) | ((with_reducible refine gate_dst (N := 4) rfl ?_); refine box_event ?hg (N := 4) ?hd (cs := #[.map none]) (t := 68) ?hr ?_; (case hd => rfl); (case hg => rfl); (case hr => first | (go_simp; done) | (go_simp; rfl)); intro bm hg4 w2 hbox4 hb4; have hc4 : w2.cell? ⟨bm, 0, none⟩ = some (.map none) := (blk_cell hbox4 0).trans rfl; have hf4 := blk_frozen hbox4 0; have BO4 := Aside0.mk hbox4; have BB4 := Aside0.mk hb4; have GG4 := Aside0.mk hg4; clear hbox4 hb4 hg4))
  obtain ⟨w3, hw3⟩ : ∃ w3 : World, w3 = w2.setCell ⟨bm, 0, none⟩ (.map (some b)) := ⟨_, rfl⟩
  rw [← hw3]
  have O1 := Aside0.mk (show bt < b by have := FG.out; have := blk_lt BO1.out; omega)
  have O2 := Aside0.mk (show b < bm by rw [GG4.out]; exact blk_lt FB.out)
  have L3 : Below wf.heap.size wf w3 := by rw [hw3]; exact below_set BB4.out (Nat.le_of_eq GG4.out.symm)
  have T3 := Aside0.mk (blk_below (blk_below BO1.out FL.out) L3)
  have F3 := Aside0.mk (blk_below FB.out L3)
  have M3 : Aside0 (w3.heap[bm]? = some (.cells #[.map (some b)] 68 (0, 0))) := ⟨by rw [hw3]; exact blk_set BO4.out 0 _⟩
  have B3 := Aside0.mk (below_then (below_then BB1.out BB1.out.size FL.out) (below_then BB1.out BB1.out.size FL.out).size L3)
  clear hw3 hc1 hf1 BO1 BB1 hc4 hf4 BO4 BB4 GG4 FB FL FG L3
  go_upto_region 5 with (first | ((with_reducible refine gate_dst (N := 5) rfl ?_); refine box_event ?hg (N := 5) ?hd (cs := #[.int .i64 0]) (t := 3) ?hr ?_; (case hd => rfl); (case hg => rfl); (case hr => first | (go_simp; done) | (go_simp; rfl)); intro bw hg5 w4 hbox5 hb5; have hc5 : w4.cell? ⟨bw, 0, none⟩ = some (.int .i64 0) := (blk_cell hbox5 0).trans rfl; have hf5 := blk_frozen hbox5 0; have BO5 := Aside0.mk hbox5; have BB5 := Aside0.mk hb5; have GG5 := Aside0.mk hg5; clear hbox5 hb5 hg5) | ((with_reducible refine gate_dst (N := 6) rfl ?_); refine box_event ?hg (N := 6) ?hd (cs := #[.int .i64 0]) (t := 3) ?hr ?_; (case hd => rfl); (case hg => rfl); (case hr => first | (go_simp; done) | (go_simp; rfl)); intro bd hg6 w5 hbox6 hb6; have hc6 : w5.cell? ⟨bd, 0, none⟩ = some (.int .i64 0) := (blk_cell hbox6 0).trans rfl; have hf6 := blk_frozen hbox6 0; have BO6 := Aside0.mk hbox6; have BB6 := Aside0.mk hb6; have GG6 := Aside0.mk hg6; have hc5b : w5.cell? ⟨bw, 0, none⟩ = some (.int .i64 0) := (blk_cell (blk_below BO5.out hb6) 0).trans rfl; have hf5b := blk_frozen (blk_below BO5.out hb6) 0; have hn6 : bd ≠ bw := Nat.ne_of_gt (Nat.lt_of_lt_of_eq (blk_lt BO5.out) hg6.symm); obtain ⟨hc6b, hf6b⟩ := far_get hbox6 hn6; clear hn6; clear hbox6 hb6 hg6))
  obtain ⟨w6, hw6⟩ : ∃ w6 : World, w6 = (w5.setCell ⟨bw, 0, none⟩ (.int .i64 (-1))).setCell ⟨bd, 0, none⟩ (.int .i64 (-1)) := ⟨_, rfl⟩
  rw [← hw6]
  have O3 := Aside0.mk (show bm < bw by rw [GG5.out]; exact blk_lt M3.out)
  have O4 := Aside0.mk (show bw < bd by rw [GG6.out]; exact blk_lt BO5.out)
  have L6 : Below w3.heap.size w3 w6 := by
    have a : w3.heap.size ≤ bw := Nat.le_of_eq GG5.out.symm
    have c : w3.heap.size ≤ bd := by have := O4.out; omega
    rw [hw6]
    exact below_set (below_set (below_step BB5.out BB6.out) a) c
  have T6 := Aside0.mk (blk_below T3.out L6)
  have F6 := Aside0.mk (blk_below F3.out L6)
  have M6 := Aside0.mk (blk_below M3.out L6)
  have W6 : Aside0 (w6.heap[bw]? = some (.cells #[.int .i64 (-1)] 3 (0, 0))) := ⟨by rw [hw6]; exact obj_far (blk_set (blk_below BO5.out BB6.out) 0 _) (by show bw ≠ bd; have := O4.out; omega)⟩
  have D6 : Aside0 (w6.heap[bd]? = some (.cells #[.int .i64 (-1)] 3 (0, 0))) := ⟨by rw [hw6]; exact blk_set (obj_far BO6.out (by show bd ≠ bw; have := O4.out; omega)) 0 _⟩
  have B6 := Aside0.mk (below_then B3.out B3.out.size L6)
  clear hw6 hc5 hf5 hc5b hf5b hc6b hf6b BO5 BB5 hc6 hf6 BO6 BB6 GG5 GG6 L6 T3 F3 M3 B3
  go_upto_region 7 with ((with_reducible refine gate_dst (N := 7) rfl ?_); refine box_event ?hg (N := 7) ?hd (cs := #[.nilFunc]) (t := 70) ?hr ?_; (case hd => rfl); (case hg => rfl); (case hr => first | (go_simp; done) | (go_simp; rfl)); intro bk hg7 w7 hbox7 hb7; have hc7 : w7.cell? ⟨bk, 0, none⟩ = some .nilFunc := (blk_cell hbox7 0).trans rfl; have hf7 := blk_frozen hbox7 0; have BO7 := Aside0.mk hbox7; have BB7 := Aside0.mk hb7; have GG7 := Aside0.mk hg7; clear hbox7 hb7 hg7)
  obtain ⟨w8, hw8⟩ : ∃ w8 : World, w8 = w7.setCell ⟨bk, 0, none⟩ (.func (.func 52) #[] #[.pointer (some ⟨bt, 0, none⟩), .pointer (some ⟨bw, 0, none⟩), .pointer (some ⟨bm, 0, none⟩), .pointer (some ⟨bd, 0, none⟩), .pointer (some ⟨bk, 0, none⟩)]) := ⟨_, rfl⟩
  rw [← hw8]
  have O5 := Aside0.mk (show bd < bk by rw [GG7.out]; exact blk_lt D6.out)
  have L8 : Below w6.heap.size w6 w8 := by rw [hw8]; exact below_set BB7.out (Nat.le_of_eq GG7.out.symm)
  have K8 : Aside0 (w8.heap[bk]? = some (.cells #[(.func (.func 52) #[] #[.pointer (some ⟨bt, 0, none⟩), .pointer (some ⟨bw, 0, none⟩), .pointer (some ⟨bm, 0, none⟩), .pointer (some ⟨bd, 0, none⟩), .pointer (some ⟨bk, 0, none⟩)])] 70 (0, 0))) := ⟨by rw [hw8]; exact blk_set BO7.out 0 _⟩
  have HE : Aside0 (ChkEnv w w8 l0 A0 c0 bt b bm bw bd bk (-1) (-1)) := ⟨below_then B6.out B6.out.size L8, HR.out, HC.out, blk_below T6.out L8, blk_below F6.out L8, blk_below M6.out L8, blk_below W6.out L8, blk_below D6.out L8, K8.out, by have := GG1.out; have := O1.out; have := O2.out; have := O3.out; have := O4.out; have := O5.out; omega⟩
  clear hw8 hc7 hf7 BO7 BB7 GG7 L8 K8 T6 F6 M6 W6 D6 B6 O1 O2 O3 O4 O5 GG1
  obtain ⟨hct, hcm, hcw, hcd, hck, hfw, hfd⟩ := HE.out.get
  have CALL := Aside0.mk (chk_walk HL.out k 0 1 54 [] _ _ _ _ _ _ w8 HE.out enters_two (may_two _ _ _) HWA.out)
  have hent2 : ∀ (args : Array Value) (w : World), Sem.run Try.prog (callFunc 52 args) w = .ok (.enter 52 args) w := enters_walk
  go_upto_block 0 with ((with_reducible refine CALL.out.mono ?_); rintro e w9 ⟨rfl, HE2, KP2⟩; have HE3 := Aside0.mk HE2; clear HE2 KP2)
  clear hct hcm hcw hcd hck hfw hfd CALL hent2 HE
  have H := HH.out
  clear HH
  obtain ⟨hct, hcm, hcw, hcd, hck, hfw, hfd⟩ := HE3.out.get
  by_cases cA : 0 ≤ q2
  · rw [if_pos cA] at H
    have cAb : decide (0 ≤ q2) = true := decide_eq_true cA
    clear cA
    simp only [Option.some.injEq, Prod.mk.injEq] at H
    obtain ⟨rfl, rfl⟩ := H
    go_wp2
    go_ret2
    exact ⟨rfl, HE3.out.below⟩
  rw [if_neg cA] at H
  have cAb : decide (0 ≤ q2) = false := decide_eq_false cA
  clear cA
  by_cases cB : q1 < (l0.length : Int)
  · rw [if_pos cB] at H
    have cBb : decide (q1 < (l0.length : Int)) = true := decide_eq_true cB
    clear cB
    simp only [Option.some.injEq, Prod.mk.injEq] at H
    obtain ⟨rfl, rfl⟩ := H
    go_wp2
    go_ret2
    exact ⟨rfl, HE3.out.below⟩
  rw [if_neg cB] at H
  have cBb : decide (q1 < (l0.length : Int)) = false := decide_eq_false cB
  clear cB
  by_cases cC : 0 ≤ q3
  · rw [if_pos cC] at H
    have cCb : decide (0 ≤ q3) = true := decide_eq_true cC
    clear cC
    simp only [Option.some.injEq, Prod.mk.injEq] at H
    obtain ⟨rfl, rfl⟩ := H
    go_wp2
    go_ret2
    exact ⟨rfl, HE3.out.below⟩
  rw [if_neg cC] at H
  have cCb : decide (0 ≤ q3) = false := decide_eq_false cC
  clear cC
  simp only [Option.some.injEq, Prod.mk.injEq] at H
  obtain ⟨rfl, rfl⟩ := H
  go_wp2
  go_ret2
  exact ⟨rfl, HE3.out.below⟩
end Go.Proofs.Ytlbchdalimngjaa.P
namespace Go.Proofs.Ytlbchdalimngjaa.P
open Go.RowKit Go.Proofs.YtlbchdalimngjaaW.PrintWords Go.Proofs.YtlbchdalimngjaaW.PrintLast
set_option linter.unusedVariables false
set_option linter.unusedSimpArgs false
section
variable {α β : Type}
theorem LeO.andThen {o o' : Option (Rz α)} {f f' : α → List Tok → Bool → Option (Rz β)} (h : LeO o o') (hf : ∀ a l g, LeO (f a l g) (f' a l g)) : LeO (andThen o f) (andThen o' f') := by
  intro r hr
  rcases andThen_inv hr with ⟨a, l, g, h1, h2⟩ | ⟨l, h1, rfl⟩
  · rw [h _ h1]
    exact hf a l g r h2
  · rw [h _ h1]
    rfl
theorem LeO.must {s : ByteArray} {l : List Tok} {f f' : List Tok → Option (Rz α)} (hf : ∀ l, LeO (f l) (f' l)) : LeO (mustS s l f) (mustS s l f') := LeO.ite (hf _) (LeO.refl _)
theorem LeO.own {l : List Tok} {f f' : ByteArray → List Tok → Option (Rz α)} (hf : ∀ s l, LeO (f s l) (f' s l)) : LeO (ownS l f) (ownS l f') := by
  cases l with
  | nil => exact LeO.refl _
  | cons x l => exact LeO.ite (hf _ _) (LeO.refl _)
end
theorem parS_mono : ∀ k acc l g, LeO (parS k acc l g) (parS (k + 1) acc l g)
  | 0, acc, l, g => fun r h => by rw [parS] at h; cases h
  | k + 1, acc, l, g => by
    rw [parS, parS]
    exact LeO.own fun s l => LeO.ite (LeO.refl _) (LeO.must fun l => parS_mono k _ _ _)
def AllMo (k : Nat) : Prop := (∀ lv l g, LeO (levS k lv l g) (levS (k + 1) lv l g)) ∧ (∀ lv t l g, LeO (leftS k lv t l g) (leftS (k + 1) lv t l g)) ∧ (∀ l g, LeO (preS k l g) (preS (k + 1) l g)) ∧ (∀ t l g, LeO (idxS k t l g) (idxS (k + 1) t l g)) ∧
  (∀ e acc l g, LeO (listS k e acc l g) (listS (k + 1) e acc l g)) ∧ (∀ op l g, LeO (oneS k op l g) (oneS (k + 1) op l g)) ∧ (∀ l g, LeO (primS k l g) (primS (k + 1) l g)) ∧ (∀ l g, LeO (wordS k l g) (wordS (k + 1) l g)) ∧
  (∀ l g, LeO (blockS k l g) (blockS (k + 1) l g)) ∧ (∀ acc l g, LeO (stmtsS k acc l g) (stmtsS (k + 1) acc l g)) ∧ (∀ l g, LeO (stmtS k l g) (stmtS (k + 1) l g))
set_option maxHeartbeats 2000000 in
theorem all_mo : ∀ k, AllMo k
  | 0 => by
    refine ⟨?_, ?_, ?_, ?_, ?_, ?_, ?_, ?_, ?_, ?_, ?_⟩ <;> intros <;> intro r h <;> simp [levS, leftS, preS, idxS, listS, oneS, primS, wordS, blockS, stmtsS, stmtS] at h
  | k + 1 => by
    obtain ⟨A, L, P, I, LS, O, PR, W, B, SS, ST⟩ := all_mo k
    have mk : ∀ (x : Twg) ps l g, LeO (mkS x ps l g) (mkS x ps l g) := fun _ _ _ _ => LeO.refl _
    refine ⟨fun lv l g => ?_, fun lv t l g => ?_, fun l g => ?_, fun t l g => ?_, fun e acc l g => ?_, fun op l g => ?_, fun l g => ?_, fun l g => ?_, fun l g => ?_, fun acc l g => ?_, fun l g => ?_⟩
    · rw [levS, levS]
      exact LeO.ite (P _ _) (LeO.ite (LeO.andThen (A _ _ _) fun _ _ _ => mk _ _ _ _) (LeO.andThen (A _ _ _) fun _ _ _ => L _ _ _ _))
    · rw [leftS, leftS]
      cases signAt lv l with
      | none => exact LeO.refl _
      | some op => exact LeO.andThen (A _ _ _) fun _ _ _ => LeO.ite (mk _ _ _ _) (L _ _ _ _)
    · rw [preS, preS]
      exact LeO.ite (LeO.andThen (P _ _) fun _ _ _ => mk _ _ _ _) (LeO.ite (LeO.andThen (P _ _) fun _ _ _ => mk _ _ _ _) (LeO.ite (LeO.andThen (P _ _) fun _ _ _ => mk _ _ _ _) (LeO.andThen (PR _ _) fun _ _ _ => I _ _ _)))
    · rw [idxS, idxS]
      exact LeO.ite (LeO.andThen (A _ _ _) fun _ _ _ => LeO.must fun _ => I _ _ _) (LeO.refl _)
    · rw [listS, listS]
      exact LeO.andThen (A _ _ _) fun _ _ _ => LeO.ite (LeO.refl _) (LeO.must fun _ => LS _ _ _ _)
    · rw [oneS, oneS]
      exact LeO.must fun _ => LeO.andThen (A _ _ _) fun _ _ _ => LeO.must fun _ => mk _ _ _ _
    · cases l with
      | nil => exact fun r h => by rw [primS] at h ⊢; exact h
      | cons x l =>
        rw [primS, primS]
        exact LeO.ite (LeO.refl _) (LeO.ite (LeO.refl _) (LeO.ite (LeO.refl _) (W _ _)))
    · rw [wordS, wordS]
      have asked : ∀ op l, LeO (ownS l fun s l => mustS (⟨#[40]⟩ : ByteArray) l fun l => if isB l (⟨#[41]⟩ : ByteArray) = true then mkS (opT op s) [] l.tail g else andThen (listS k (⟨#[41]⟩ : ByteArray) [] l g) fun ps l g => mkS (opT op s) ps l g) (ownS l fun s l => mustS (⟨#[40]⟩ : ByteArray) l fun l => if isB l (⟨#[41]⟩ : ByteArray) = true then mkS (opT op s) [] l.tail g else andThen (listS (k + 1) (⟨#[41]⟩ : ByteArray) [] l g) fun ps l g => mkS (opT op s) ps l g) :=
        fun op l => LeO.own fun _ _ => LeO.must fun _ => LeO.ite (LeO.refl _) (LeO.andThen (LS _ _ _ _) fun _ _ _ => mk _ _ _ _)
      refine LeO.ite (LeO.refl _) (LeO.ite (LeO.refl _) (LeO.ite (LeO.refl _) (LeO.ite (LeO.refl _) (LeO.ite (LeO.ite (LeO.refl _) (LeO.andThen (LS _ _ _ _) fun _ _ _ => mk _ _ _ _)) (LeO.ite (LeO.andThen (A _ _ _) fun _ _ _ => LeO.refl _) ?_)))))
      refine LeO.ite (O _ _ _) (LeO.ite (O _ _ _) (LeO.ite (O _ _ _) (LeO.ite (O _ _ _) (LeO.ite (O _ _ _) ?_))))
      refine LeO.ite (LeO.must fun _ => LeO.andThen (A _ _ _) fun _ _ _ => LeO.must fun _ => LeO.andThen (A _ _ _) fun _ _ _ => LeO.refl _) (LeO.ite (LeO.andThen (B _ _) fun _ _ _ => mk _ _ _ _) (LeO.ite (LeO.refl _) (LeO.ite (asked _ _) (LeO.ite (asked _ _) (LeO.refl _)))))
    · rw [blockS, blockS]
      exact LeO.must fun _ => SS _ _ _
    · rw [stmtsS, stmtsS]
      exact LeO.ite (mk _ _ _ _) (LeO.andThen (ST _ _) fun _ _ _ => SS _ _ _)
    · rw [stmtS, stmtS]
      have set_ : ∀ op l, LeO (ownS l fun s l => mustS (⟨#[61]⟩ : ByteArray) l fun l => andThen (levS k 0 l g) fun t l g => mkS (opT op s) [t] l g) (ownS l fun s l => mustS (⟨#[61]⟩ : ByteArray) l fun l => andThen (levS (k + 1) 0 l g) fun t l g => mkS (opT op s) [t] l g) :=
        fun op l => LeO.own fun _ _ => LeO.must fun _ => LeO.andThen (A _ _ _) fun _ _ _ => mk _ _ _ _
      have last : ∀ op l, LeO (andThen (levS k 0 l g) fun t l g => mkS (op1 op) [t] l g) (andThen (levS (k + 1) 0 l g) fun t l g => mkS (op1 op) [t] l g) := fun op l => LeO.andThen (A _ _ _) fun _ _ _ => mk _ _ _ _
      refine LeO.ite (set_ _ _) (LeO.ite (set_ _ _) (LeO.ite (LeO.andThen (A _ _ _) fun _ _ _ => LeO.andThen (B _ _) fun _ _ _ => LeO.ite (LeO.andThen (B _ _) fun _ _ _ => mk _ _ _ _) (mk _ _ _ _)) (LeO.ite (LeO.andThen (A _ _ _) fun _ _ _ => LeO.andThen (B _ _) fun _ _ _ => mk _ _ _ _) ?_)))
      exact LeO.ite (last _ _) (LeO.ite (last _ _) (LeO.ite (last _ _) (LeO.ite (last _ _) (LeO.refl _))))
theorem flow_mono (k : Nat) (l : List Tok) (g : Bool) : LeO (flowS k l g) (flowS (k + 1) l g) :=
  LeO.must fun _ => LeO.own fun _ _ => LeO.must fun _ => LeO.andThen (LeO.ite (LeO.refl _) (parS_mono _ _ _ _)) fun _ _ _ => LeO.andThen ((all_mo k).2.2.2.2.2.2.2.2.1 _ _) fun _ _ _ => LeO.refl _
theorem expr_mono (k : Nat) (l : List Tok) (g : Bool) : LeO (levS k 0 l g) (levS (k + 1) 0 l g) := (all_mo k).1 0 l g
section
variable {α β : Type}
def Some_ (o : Option α) : Prop := ∃ r, o = some r
theorem Some_.mk (a : α) : Some_ (some a) := ⟨a, rfl⟩
theorem Some_.ite {c : Prop} [Decidable c] {a b : Option α} (h1 : c → Some_ a) (h2 : ¬ c → Some_ b) : Some_ (if c then a else b) := by
  by_cases h : c
  · rw [if_pos h]; exact h1 h
  · rw [if_neg h]; exact h2 h
theorem Some_.andThen {o : Option (Rz α)} {f : α → List Tok → Bool → Option (Rz β)} (h : Some_ o) (hf : ∀ a l g, o = some (.ok a l g) → Some_ (f a l g)) : Some_ (andThen o f) := by
  obtain ⟨r, rfl⟩ := h
  cases r with
  | ok a l g => exact hf a l g rfl
  | bad l => exact ⟨_, rfl⟩
theorem Some_.must {s : ByteArray} {l : List Tok} {f : List Tok → Option (Rz α)} (hf : ∀ x r, l = x :: r → Some_ (f r)) : Some_ (mustS s l f) := by
  refine Some_.ite (fun h => ?_) (fun _ => ⟨_, rfl⟩)
  obtain ⟨x, r, rfl⟩ := isB_cons h
  exact hf x r rfl
theorem Some_.own {l : List Tok} {f : ByteArray → List Tok → Option (Rz α)} (hf : ∀ s x r, l = x :: r → Some_ (f s r)) : Some_ (ownS l f) := by
  cases l with
  | nil => exact ⟨_, rfl⟩
  | cons x l => exact Some_.ite (fun _ => hf _ x l rfl) (fun _ => ⟨_, rfl⟩)
theorem Some_.has {s : ByteArray} {l : List Tok} {a b : Option α} (h1 : ∀ x r, l = x :: r → Some_ a) (h2 : Some_ b) : Some_ (if isB l s = true then a else b) := by
  refine Some_.ite (fun h => ?_) (fun _ => h2)
  obtain ⟨x, r, rfl⟩ := isB_cons h
  exact h1 x r rfl
end
theorem parS_some : ∀ k acc l g, l.length < k → Some_ (parS k acc l g)
  | 0, acc, l, g, h => absurd h (Nat.not_lt_zero _)
  | k + 1, acc, l, g, h => by
    rw [parS]
    refine Some_.own fun s x r e => Some_.has (fun _ _ _ => ⟨_, rfl⟩) (Some_.must fun y r2 e2 => parS_some k _ _ _ ?_)
    subst e
    subst e2
    simp only [List.length_cons] at h
    omega
def AllSo (k : Nat) : Prop := (∀ lv l g, 20 * l.length + 12 ≤ k + min lv 5 → Some_ (levS k lv l g)) ∧ (∀ lv t l g, 20 * l.length + 2 ≤ k → Some_ (leftS k lv t l g)) ∧ (∀ l g, 20 * l.length + 6 ≤ k → Some_ (preS k l g)) ∧ (∀ t l g, 20 * l.length + 2 ≤ k → Some_ (idxS k t l g)) ∧
  (∀ e acc l g, 20 * l.length + 14 ≤ k → Some_ (listS k e acc l g)) ∧ (∀ op l g, 20 * l.length + 3 ≤ k → Some_ (oneS k op l g)) ∧ (∀ l g, 20 * l.length + 5 ≤ k → Some_ (primS k l g)) ∧ (∀ l g, 20 * l.length + 4 ≤ k → Some_ (wordS k l g)) ∧
  (∀ l g, 20 * l.length + 3 ≤ k → Some_ (blockS k l g)) ∧ (∀ acc l g, 20 * l.length + 6 ≤ k → Some_ (stmtsS k acc l g)) ∧ (∀ l g, 20 * l.length + 4 ≤ k → Some_ (stmtS k l g))
theorem lt_of_lev {k lv : Nat} {l : List Tok} {g : Bool} {t : List Twg} {m : List Tok} {h : Bool} (e : levS k lv l g = some (.ok t m h)) : m.length < l.length := ((all_sh k).1 _ _ _ _ e).2.1
theorem lt_of_prim {k : Nat} {l : List Tok} {g : Bool} {t : List Twg} {m : List Tok} {h : Bool} (e : primS k l g = some (.ok t m h)) : m.length < l.length := ((all_sh k).2.2.2.2.2.2.1 _ _ _ e).2.1
theorem lt_of_block {k : Nat} {l : List Tok} {g : Bool} {t : List Twg} {m : List Tok} {h : Bool} (e : blockS k l g = some (.ok t m h)) : m.length < l.length := ((all_sh k).2.2.2.2.2.2.2.2.1 _ _ _ e).2.1
theorem lt_of_stmt {k : Nat} {l : List Tok} {g : Bool} {t : List Twg} {m : List Tok} {h : Bool} (e : stmtS k l g = some (.ok t m h)) : m.length < l.length := ((all_sh k).2.2.2.2.2.2.2.2.2.2 _ _ _ e).2.1
theorem signAt_cons {lv : Nat} {l : List Tok} {op : Int} (h : signAt lv l = some op) : ∃ x r, l = x :: r := by
  cases l with
  | cons x r => exact ⟨x, r, rfl⟩
  | nil =>
    have e : ∀ ss os, signGo [] ss os = none := by
      intro ss
      induction ss with
      | nil => intro os; simp [signGo]
      | cons s ss ih =>
        intro os
        cases os with
        | nil => simp [signGo]
        | cons o os => rw [signGo, if_neg (by simp [isB]), ih]
    rw [signAt, e] at h
    cases h
set_option maxHeartbeats 2000000 in
theorem all_so : ∀ k, AllSo k
  | 0 => by
    refine ⟨?_, ?_, ?_, ?_, ?_, ?_, ?_, ?_, ?_, ?_, ?_⟩ <;> intros <;> omega
  | k + 1 => by
    obtain ⟨A, L, P, I, LS, O, PR, W, B, SS, ST⟩ := all_so k
    have mk : ∀ (x : Twg) ps l g, Some_ (mkS x ps l g) := fun _ _ _ _ => ⟨_, rfl⟩
    refine ⟨fun lv l g h => ?_, fun lv t l g h => ?_, fun l g h => ?_, fun t l g h => ?_, fun e acc l g h => ?_, fun op l g h => ?_, fun l g h => ?_, fun l g h => ?_, fun l g h => ?_, fun acc l g h => ?_, fun l g h => ?_⟩
    · rw [levS]
      refine Some_.ite (fun h5 => P _ _ (by omega)) (fun h5 => Some_.ite (fun h2 => ?_) (fun _ => ?_))
      · obtain ⟨x, r, rfl⟩ := isB_cons h2.2
        rw [List.length_cons] at h
        exact Some_.andThen (A _ _ _ (by rw [List.tail_cons]; omega)) fun _ _ _ _ => mk _ _ _ _
      · refine Some_.andThen (A _ _ _ (by omega)) fun _ _ _ e => L _ _ _ _ ?_
        have := lt_of_lev e
        omega
    · rw [leftS]
      cases hs : signAt lv l with
      | none => exact ⟨_, rfl⟩
      | some op =>
        obtain ⟨x, r, rfl⟩ := signAt_cons hs
        rw [List.length_cons] at h
        refine Some_.andThen (A _ _ _ (by rw [List.tail_cons]; omega)) fun _ _ _ e => Some_.ite (fun _ => mk _ _ _ _) (fun _ => L _ _ _ _ ?_)
        have := lt_of_lev e
        rw [List.tail_cons] at this
        omega
    · rw [preS]
      have pp : ∀ x r, l = x :: r → ∀ op, Some_ (andThen (preS k l.tail g) fun t l g => mkS (op1 op) [t] l g) := by
        intro x r e op
        subst e
        rw [List.length_cons] at h
        exact Some_.andThen (P _ _ (by rw [List.tail_cons]; omega)) fun _ _ _ _ => mk _ _ _ _
      refine Some_.has (fun x r e => pp x r e _) (Some_.has (fun x r e => pp x r e _) (Some_.has (fun x r e => pp x r e _) (Some_.andThen (PR _ _ (by omega)) fun _ _ _ e => I _ _ _ ?_)))
      have := lt_of_prim e
      omega
    · rw [idxS]
      refine Some_.has (fun x r e => ?_) ⟨_, rfl⟩
      subst e
      rw [List.length_cons] at h
      refine Some_.andThen (A _ _ _ (by rw [List.tail_cons]; omega)) fun _ _ _ e => Some_.must fun y r2 e2 => I _ _ _ ?_
      have := lt_of_lev e
      subst e2
      rw [List.tail_cons, List.length_cons] at this
      omega
    · rw [listS]
      refine Some_.andThen (A _ _ _ (by omega)) fun _ _ _ e2 => Some_.ite (fun _ => ⟨_, rfl⟩) (fun _ => Some_.must fun y r e3 => LS _ _ _ _ ?_)
      have := lt_of_lev e2
      subst e3
      rw [List.length_cons] at this
      omega
    · rw [oneS]
      refine Some_.must fun x r e => ?_
      subst e
      rw [List.length_cons] at h
      exact Some_.andThen (A _ _ _ (by omega)) fun _ _ _ _ => Some_.must fun _ _ _ => mk _ _ _ _
    · cases l with
      | nil => exact ⟨_, by rw [primS]⟩
      | cons x l =>
        rw [primS]
        exact Some_.ite (fun _ => ⟨_, rfl⟩) fun _ => Some_.ite (fun _ => ⟨_, rfl⟩) fun _ => Some_.ite (fun _ => ⟨_, rfl⟩) fun _ => W _ _ (by omega)
    · rw [wordS]
      have atom : ∀ t : List Twg, ∀ x r, l = x :: r → Some_ (some (Rz.ok t l.tail g)) := fun _ _ _ _ => ⟨_, rfl⟩
      have one : ∀ op, ∀ x r, l = x :: r → Some_ (oneS k op l.tail g) := by
        intro op x r e
        subst e
        rw [List.length_cons] at h
        exact O _ _ _ (by rw [List.tail_cons]; omega)
      have asked : ∀ op, ∀ x r, l = x :: r → Some_ (ownS l.tail fun s l => mustS (⟨#[40]⟩ : ByteArray) l fun l => if isB l (⟨#[41]⟩ : ByteArray) = true then mkS (opT op s) [] l.tail g else andThen (listS k (⟨#[41]⟩ : ByteArray) [] l g) fun ps l g => mkS (opT op s) ps l g) := by
        intro op x r e
        subst e
        rw [List.length_cons] at h
        refine Some_.own fun s y r2 e2 => Some_.must fun z r3 e3 => Some_.has (fun _ _ _ => mk _ _ _ _) (Some_.andThen (LS _ _ _ _ ?_) fun _ _ _ _ => mk _ _ _ _)
        rw [List.tail_cons] at e2
        subst e2
        subst e3
        simp only [List.length_cons] at h
        omega
      refine Some_.has (atom _) (Some_.has (atom _) (Some_.has (atom _) (Some_.has (atom _) (Some_.has (fun x r e => ?_) (Some_.has (fun x r e => ?_) ?_)))))
      · subst e
        rw [List.length_cons] at h
        exact Some_.has (fun _ _ _ => mk _ _ _ _) (Some_.andThen (LS _ _ _ _ (by rw [List.tail_cons]; omega)) fun _ _ _ _ => mk _ _ _ _)
      · subst e
        rw [List.length_cons] at h
        exact Some_.andThen (A _ _ _ (by rw [List.tail_cons]; omega)) fun _ _ _ _ => Some_.must fun _ _ _ => ⟨_, rfl⟩
      refine Some_.has (one _) (Some_.has (one _) (Some_.has (one _) (Some_.has (one _) (Some_.has (one _) (Some_.has (fun x r e => ?_) (Some_.has (fun x r e => ?_) (Some_.has (fun x r e => ?_) (Some_.has (asked _) (Some_.has (asked _) ⟨_, rfl⟩)))))))))
      · subst e
        rw [List.length_cons] at h
        refine Some_.must fun y r2 e2 => ?_
        rw [List.tail_cons] at e2
        subst e2
        rw [List.length_cons] at h
        refine Some_.andThen (A _ _ _ (by omega)) fun _ _ _ e => Some_.must fun z r3 e3 => Some_.andThen (A _ _ _ ?_) fun _ _ _ _ => Some_.must fun _ _ _ => mk _ _ _ _
        have := lt_of_lev e
        subst e3
        rw [List.length_cons] at this
        omega
      · subst e
        rw [List.length_cons] at h
        exact Some_.andThen (B _ _ (by rw [List.tail_cons]; omega)) fun _ _ _ _ => mk _ _ _ _
      · exact Some_.own fun _ _ _ _ => ⟨_, rfl⟩
    · rw [blockS]
      refine Some_.must fun x r e => SS _ _ _ ?_
      subst e
      rw [List.length_cons] at h
      omega
    · rw [stmtsS]
      refine Some_.has (fun _ _ _ => mk _ _ _ _) (Some_.andThen (ST _ _ (by omega)) fun _ _ _ e => SS _ _ _ ?_)
      have := lt_of_stmt e
      omega
    · rw [stmtS]
      have set_ : ∀ op l', l'.length ≤ l.length → Some_ (ownS l' fun s l => mustS (⟨#[61]⟩ : ByteArray) l fun l => andThen (levS k 0 l g) fun t l g => mkS (opT op s) [t] l g) := by
        intro op l' hl
        refine Some_.own fun s y r e => Some_.must fun z r2 e2 => Some_.andThen (A _ _ _ ?_) fun _ _ _ _ => mk _ _ _ _
        subst e
        subst e2
        simp only [List.length_cons] at hl
        omega
      have last : ∀ op, ∀ x r, l = x :: r → Some_ (andThen (levS k 0 l.tail g) fun t l g => mkS (op1 op) [t] l g) := by
        intro op x r e
        subst e
        rw [List.length_cons] at h
        exact Some_.andThen (A _ _ _ (by rw [List.tail_cons]; omega)) fun _ _ _ _ => mk _ _ _ _
      refine Some_.ite (fun _ => set_ _ _ (Nat.le_refl _)) fun _ => Some_.has (fun x r e => set_ _ _ (by subst e; simp)) (Some_.has (fun x r e => ?_) (Some_.has (fun x r e => ?_) ?_))
      · subst e
        rw [List.length_cons] at h
        refine Some_.andThen (A _ _ _ (by rw [List.tail_cons]; omega)) fun _ m _ e => ?_
        have h1 := lt_of_lev e
        rw [List.tail_cons] at h1
        refine Some_.andThen (B _ _ (by omega)) fun _ m2 _ e => Some_.has (fun y r2 e2 => ?_) (mk _ _ _ _)
        have h2 := lt_of_block e
        subst e2
        rw [List.length_cons] at h2
        exact Some_.andThen (B _ _ (by rw [List.tail_cons]; omega)) fun _ _ _ _ => mk _ _ _ _
      · subst e
        rw [List.length_cons] at h
        refine Some_.andThen (A _ _ _ (by rw [List.tail_cons]; omega)) fun _ m _ e => ?_
        have h1 := lt_of_lev e
        rw [List.tail_cons] at h1
        exact Some_.andThen (B _ _ (by omega)) fun _ _ _ _ => mk _ _ _ _
      exact Some_.has (last _) (Some_.has (last _) (Some_.has (last _) (Some_.has (last _) ⟨_, rfl⟩)))
theorem flow_some (l : List Tok) (g : Bool) : ∃ k r, flowS k l g = some r := by
  refine ⟨20 * l.length + 12, ?_⟩
  show Some_ (flowS _ l g)
  refine Some_.must fun x r e => Some_.own fun s y r2 e2 => Some_.must fun z r3 e3 => ?_
  subst e
  subst e2
  subst e3
  simp only [List.length_cons]
  refine Some_.andThen (Some_.ite (fun _ => ⟨_, rfl⟩) (fun _ => parS_some _ _ _ _ (by omega))) fun ps m g' e => Some_.andThen ((all_so _).2.2.2.2.2.2.2.2.1 _ _ ?_) fun _ _ _ _ => ⟨_, rfl⟩
  have hm : m.length ≤ r3.length := by
    rcases ite_inv e with ⟨hb, h⟩ | ⟨hb, h⟩
    · obtain ⟨y, r4, rfl⟩ := isB_cons hb
      injection h with h
      injection h with _ h _
      rw [← h]
      simp
    · have := (parS_sh _ _ _ _ _ (by simp) h).1.length_le
      exact this
  omega
end Go.Proofs.Ytlbchdalimngjaa.P
namespace Go.Proofs.Ytlbchdalimngjaa.P
open Go.RowKit Go.Proofs.YtlbchdalimngjaaW.PrintWords Go.Proofs.YtlbchdalimngjaaW.PrintLast
set_option linter.unusedVariables false
set_option linter.unusedSimpArgs false
def Rz.rest {α : Type} : Rz α → List Tok
  | .ok _ l _ => l
  | .bad l => l
def Rz.turn {α : Type} (r : Rz α) (l : List Tok) : Rz α := match r with
  | .ok a _ g => .ok a l g
  | .bad _ => .bad l
theorem Rz.turn_rest {α : Type} (r : Rz α) (l : List Tok) : (r.turn l).rest = l := by cases r <;> rfl
abbrev Pr (α : Type) := List Tok → Bool → Option (Rz α)
def LL {α : Type} (P : Pr α) : Prop := ∀ l g r, P l g = some r → ∃ p, l = p ++ r.rest ∧ ∀ y m, r.rest = y :: m → ∀ m', P (p ++ y :: m') g = some (r.turn (y :: m'))
section
variable {α β γ : Type}
theorem LL.of {P Q : Pr α} (h : LL Q) (e : ∀ l g, P l g = Q l g) : LL P := by
  have : P = Q := funext fun l => funext fun g => e l g
  rw [this]
  exact h
theorem LL.ret (a : Bool → α) (h : Bool → Bool) : LL (fun l g => some (.ok (a g) l (h g))) := by
  intro l g r hr
  obtain rfl := Option.some.inj hr
  exact ⟨[], rfl, fun y m _ m' => rfl⟩
theorem LL.bad : LL (α := α) (fun l _ => some (.bad l)) := by
  intro l g r hr
  obtain rfl := Option.some.inj hr
  exact ⟨[], rfl, fun y m _ m' => rfl⟩
theorem isB_head (p : List Tok) (y : Tok) (m m' : List Tok) (s : ByteArray) : isB (p ++ y :: m) s = isB (p ++ y :: m') s := by cases p <;> rfl
theorem mineB_head (p : List Tok) (y : Tok) (m m' : List Tok) : mineB (p ++ y :: m) = mineB (p ++ y :: m') := by cases p <;> rfl
theorem signGo_head (p : List Tok) (y : Tok) (m m' : List Tok) : ∀ ss os, signGo (p ++ y :: m) ss os = signGo (p ++ y :: m') ss os
  | [], _ => by simp [signGo]
  | _ :: _, [] => by simp [signGo]
  | s :: ss, o :: os => by rw [signGo, signGo, isB_head p y m m', signGo_head p y m m' ss os]
theorem sign_head (lv : Nat) (p : List Tok) (y : Tok) (m m' : List Tok) : signAt lv (p ++ y :: m) = signAt lv (p ++ y :: m') := signGo_head p y m m' _ _
theorem signGo_nil : ∀ ss os, signGo [] ss os = none
  | [], _ => by simp [signGo]
  | _ :: _, [] => by simp [signGo]
  | s :: ss, o :: os => by rw [signGo, if_neg (by simp [isB]), signGo_nil ss os]
theorem LL.ite (s : ByteArray) {P Q : Pr α} (hP : LL P) (hQ : LL Q) : LL (fun l g => if isB l s = true then P l.tail g else Q l g) := by
  intro l g r hr
  rcases ite_inv hr with ⟨hb, h⟩ | ⟨hb, h⟩
  · obtain ⟨x, l1, rfl⟩ := isB_cons hb
    obtain ⟨p, e, hp⟩ := hP _ _ _ h
    rw [List.tail_cons] at e
    refine ⟨x :: p, by rw [e]; rfl, fun y m hm m' => ?_⟩
    have hb' : isB (x :: p ++ y :: m') s = true := hb
    exact (if_pos hb').trans (hp y m hm m')
  · obtain ⟨p, e, hp⟩ := hQ _ _ _ h
    refine ⟨p, e, fun y m hm m' => ?_⟩
    have hb' : ¬ isB (p ++ y :: m') s = true := by rw [isB_head p y m' m, ← hm, ← e]; exact hb
    exact (if_neg hb').trans (hp y m hm m')
theorem LL.must (s : ByteArray) {P : Pr α} (hP : LL P) : LL (fun l g => mustS s l fun l => P l g) := LL.ite s hP LL.bad
theorem LL.mine {P Q : Pr α} (hP : LL P) (hQ : LL Q) : LL (fun l g => if mineB l = true then P l g else Q l g) := by
  intro l g r hr
  rcases ite_inv hr with ⟨hb, h⟩ | ⟨hb, h⟩
  · obtain ⟨p, e, hp⟩ := hP _ _ _ h
    refine ⟨p, e, fun y m hm m' => ?_⟩
    have hb' : mineB (p ++ y :: m') = true := by rw [mineB_head p y m' m, ← hm, ← e]; exact hb
    exact (if_pos hb').trans (hp y m hm m')
  · obtain ⟨p, e, hp⟩ := hQ _ _ _ h
    refine ⟨p, e, fun y m hm m' => ?_⟩
    have hb' : ¬ mineB (p ++ y :: m') = true := by rw [mineB_head p y m' m, ← hm, ← e]; exact hb
    exact (if_neg hb').trans (hp y m hm m')
theorem LL.own {P : ByteArray → Pr α} (hP : ∀ s, LL (P s)) : LL (fun l g => ownS l fun s l => P s l g) := by
  intro l g r hr
  rcases ownS_inv hr with ⟨x, l1, rfl, hb, h⟩ | ⟨hb, rfl⟩
  · obtain ⟨p, e, hp⟩ := hP _ _ _ _ h
    refine ⟨x :: p, by rw [e]; rfl, fun y m hm m' => ?_⟩
    have hb' : mineB (x :: (p ++ y :: m')) = true := hb
    exact (if_pos hb').trans (hp y m hm m')
  · refine ⟨[], rfl, fun y m hm m' => ?_⟩
    have hm : l = y :: m := hm
    subst hm
    have hb' : ¬ mineB (y :: m') = true := by
      have : mineB (y :: m') = false := hb
      rw [this]
      simp
    exact if_neg hb'
theorem LL.bind {P : Pr α} {Q : α → Pr β} (hP : LL P) (hQ : ∀ a, LL (Q a)) : LL (fun l g => andThen (P l g) fun a l g => Q a l g) := by
  intro l g r hr
  rcases andThen_inv hr with ⟨a, l1, g1, h1, h2⟩ | ⟨l1, h1, rfl⟩
  · obtain ⟨p, e, hp⟩ := hP _ _ _ h1
    obtain ⟨q, e2, hq⟩ := hQ _ _ _ _ h2
    change l = p ++ l1 at e
    refine ⟨p ++ q, by rw [e, e2, List.append_assoc], fun y m hm m' => ?_⟩
    have e3 : l1 = q ++ y :: m := by rw [e2, hm]
    have h3 : P ((p ++ q) ++ y :: m') g = some (.ok a (q ++ y :: m') g1) := by
      rw [List.append_assoc]
      cases q with
      | nil => exact hp y m e3 m'
      | cons z q => exact hp z (q ++ y :: m) e3 (q ++ y :: m')
    show andThen (P ((p ++ q) ++ y :: m') g) _ = _
    rw [h3]
    exact hq y m hm m'
  · obtain ⟨p, e, hp⟩ := hP _ _ _ h1
    refine ⟨p, e, fun y m hm m' => ?_⟩
    show andThen (P (p ++ y :: m') g) _ = _
    rw [hp y m hm m']
    rfl
theorem LL.at_ {P : γ → Pr α} (h : ∀ c, LL (P c)) (F : Bool → γ) (G : Bool → Bool) : LL (fun l g => P (F g) l (G g)) := fun l g r hr => h (F g) l (G g) r hr
theorem LL.sign {P : Int → Pr α} {Q : Pr α} (lv : Nat) (hP : ∀ op, LL (P op)) (hQ : LL Q) : LL (fun l g => match signAt lv l with | none => Q l g | some op => P op l.tail g) := by
  intro l g r hr
  dsimp only at hr
  cases hs : signAt lv l with
  | none =>
    rw [hs] at hr
    obtain ⟨p, e, hp⟩ := hQ _ _ _ hr
    refine ⟨p, e, fun y m hm m' => ?_⟩
    have h2 : signAt lv (p ++ y :: m') = none := by rw [sign_head lv p y m' m, ← hm, ← e]; exact hs
    dsimp only
    rw [h2]
    exact hp y m hm m'
  | some op =>
    rw [hs] at hr
    cases l with
    | nil => rw [signAt, signGo_nil] at hs; cases hs
    | cons x l1 =>
      obtain ⟨p, e, hp⟩ := hP _ _ _ _ hr
      rw [List.tail_cons] at e
      refine ⟨x :: p, by rw [e]; rfl, fun y m hm m' => ?_⟩
      have h2 : signAt lv (x :: p ++ y :: m') = some op := by rw [← hs]; exact sign_head lv [] x _ _
      dsimp only
      rw [h2]
      exact hp y m hm m'
theorem LL.behind {P : Pr α} (h : LL P) {A B C : List Tok} {g : Bool} {r r' : Rz α} (h1 : P (A ++ B) g = some r) (h2 : P (A ++ C) g = some r') (hr : r.rest.length ≤ B.length) : r'.rest.length ≤ C.length := by
  obtain ⟨p, e, hp⟩ := h _ _ _ h2
  rcases List.append_eq_append_iff.1 e with ⟨a, h3, h4⟩ | ⟨c, h3, h4⟩
  · have := congrArg List.length h4
    rw [List.length_append] at this
    omega
  · cases c with
    | nil =>
      have := congrArg List.length h4
      rw [List.length_append, List.length_nil] at this
      omega
    | cons y A2 =>
      have h5 := hp y (A2 ++ C) h4 (A2 ++ B)
      rw [← List.cons_append, ← List.append_assoc, ← h3, h1] at h5
      have h6 := Option.some.inj h5
      rw [h6, Rz.turn_rest, List.length_append, List.length_cons] at hr
      omega
end
theorem parS_LL : ∀ k acc, LL (parS k acc)
  | 0, acc => fun l g r hr => by rw [parS] at hr; cases hr
  | k + 1, acc => LL.of (LL.own fun s => LL.ite (⟨#[41]⟩ : ByteArray) (LL.ret (fun _ => acc ++ [[opT 2 s]]) (fun g => g)) (LL.must (⟨#[44]⟩ : ByteArray) (parS_LL k (acc ++ [[opT 2 s]])))) (fun l g => by rw [parS])
theorem mk_LL (x : Twg) (ps : List (List Twg)) : LL (mkS x ps) := LL.ret (fun g => (ofS x ps g).1) (fun g => (ofS x ps g).2)
theorem prim_LL {k : Nat} (hW : LL (wordS k)) : LL (primS (k + 1)) := by
  intro l g r hr
  cases l with
  | nil =>
    rw [primS] at hr
    obtain rfl := Option.some.inj hr
    exact ⟨[], rfl, fun y m h => by cases h⟩
  | cons x l =>
    rw [primS] at hr
    rcases ite_inv hr with ⟨h2, h⟩ | ⟨h2, h⟩
    · obtain rfl := Option.some.inj h
      exact ⟨[x], rfl, fun y m hm m' => by show primS (k + 1) (x :: y :: m') g = _; rw [primS, if_pos h2]; rfl⟩
    rcases ite_inv h with ⟨h3, h⟩ | ⟨h3, h⟩
    · obtain rfl := Option.some.inj h
      exact ⟨[x], rfl, fun y m hm m' => by show primS (k + 1) (x :: y :: m') g = _; rw [primS, if_neg h2, if_pos h3]; rfl⟩
    rcases ite_inv h with ⟨h4, h⟩ | ⟨h4, h⟩
    · obtain rfl := Option.some.inj h
      exact ⟨[x], rfl, fun y m hm m' => by show primS (k + 1) (x :: y :: m') g = _; rw [primS, if_neg h2, if_neg h3, if_pos (show mineB (x :: y :: m') = true from h4)]; rfl⟩
    · obtain ⟨p, e, hp⟩ := hW _ _ _ h
      refine ⟨p, e, fun y m hm m' => ?_⟩
      have hq := hp y m hm m'
      obtain ⟨t, ht⟩ : ∃ t, p ++ y :: m' = x :: t := by
        cases p with
        | nil => rw [hm] at e; injection e with e1 e2; exact ⟨m', by rw [e1]; rfl⟩
        | cons q p => injection e with e1 e2; exact ⟨p ++ y :: m', by rw [e1]; rfl⟩
      rw [ht] at hq ⊢
      rw [primS, if_neg h2, if_neg h3, if_neg (show ¬ mineB (x :: t) = true from h4)]
      exact hq
def AllLL (k : Nat) : Prop := (∀ lv, LL (levS k lv)) ∧ (∀ lv t, LL (leftS k lv t)) ∧ LL (preS k) ∧ (∀ t, LL (idxS k t)) ∧ (∀ e acc, LL (listS k e acc)) ∧ (∀ op, LL (oneS k op)) ∧ LL (primS k) ∧ LL (wordS k) ∧ LL (blockS k) ∧ (∀ acc, LL (stmtsS k acc)) ∧ LL (stmtS k)
theorem all_LL : ∀ k, AllLL k
  | 0 => by
    refine ⟨?_, ?_, ?_, ?_, ?_, ?_, ?_, ?_, ?_, ?_, ?_⟩ <;> intros <;> intro l g r h <;> simp [levS, leftS, preS, idxS, listS, oneS, primS, wordS, blockS, stmtsS, stmtS] at h
  | k + 1 => by
    obtain ⟨A, L, P, I, LS, O, PR, W, B, SS, ST⟩ := all_LL k
    have atom : ∀ op, LL (fun l g => some (Rz.ok [op1 op] l g)) := fun op => LL.ret (fun _ => [op1 op]) (fun g => g)
    have asked : ∀ op, LL (fun l g => ownS l fun s l => mustS (⟨#[40]⟩ : ByteArray) l fun l => if isB l (⟨#[41]⟩ : ByteArray) = true then mkS (opT op s) [] l.tail g else andThen (listS k (⟨#[41]⟩ : ByteArray) [] l g) fun ps l g => mkS (opT op s) ps l g) :=
      fun op => LL.own fun s => LL.must (⟨#[40]⟩ : ByteArray) (LL.ite (⟨#[41]⟩ : ByteArray) (mk_LL (opT op s) []) (LL.bind (LS _ _) fun ps => mk_LL (opT op s) ps))
    have set_ : ∀ op, LL (fun l g => ownS l fun s l => mustS (⟨#[61]⟩ : ByteArray) l fun l => andThen (levS k 0 l g) fun t l g => mkS (opT op s) [t] l g) :=
      fun op => LL.own fun s => LL.must (⟨#[61]⟩ : ByteArray) (LL.bind (A 0) fun t => mk_LL (opT op s) [t])
    have last : ∀ op, LL (fun l g => andThen (levS k 0 l g) fun t l g => mkS (op1 op) [t] l g) := fun op => LL.bind (A 0) fun t => mk_LL (op1 op) [t]
    refine ⟨fun lv => ?_, fun lv t => ?_, ?_, fun t => ?_, fun e acc => ?_, fun op => ?_, prim_LL W, ?_, ?_, fun acc => ?_, ?_⟩
    · by_cases h5 : lv ≥ 5
      · exact LL.of P (fun l g => by rw [levS, if_pos h5])
      by_cases h2 : lv = 2
      · subst h2
        refine LL.of (LL.ite (⟨#[110, 111, 116]⟩ : ByteArray) (LL.bind (A 2) fun t => mk_LL (op1 43) [t]) (LL.bind (A (2 + 1)) fun t => L 2 t)) (fun l g => ?_)
        rw [levS, if_neg h5]
        by_cases hb : isB l (⟨#[110, 111, 116]⟩ : ByteArray) = true
        · rw [if_pos ⟨rfl, hb⟩, if_pos hb]
        · rw [if_neg (fun h => hb h.2), if_neg hb]
      · exact LL.of (LL.bind (A (lv + 1)) fun t => L lv t) (fun l g => by rw [levS, if_neg h5, if_neg (fun h => h2 h.1)])
    · by_cases h2 : lv = 2
      · exact LL.of (LL.sign lv (fun op => LL.bind (A (lv + 1)) fun u => mk_LL (op1 op) [t, u]) (LL.ret (fun _ => t) (fun g => g))) (fun l g => by rw [leftS]; cases signAt lv l <;> simp only [if_pos h2])
      · exact LL.of (LL.sign lv (fun op => LL.bind (A (lv + 1)) fun u => LL.at_ (fun c => L lv c) (fun g => (ofS (op1 op) [t, u] g).1) (fun g => (ofS (op1 op) [t, u] g).2)) (LL.ret (fun _ => t) (fun g => g))) (fun l g => by rw [leftS]; cases signAt lv l <;> simp only [if_neg h2])
    · exact LL.of (LL.ite (⟨#[45]⟩ : ByteArray) (LL.bind P fun t => mk_LL (op1 44) [t]) (LL.ite (⟨#[97, 119, 97, 105, 116]⟩ : ByteArray) (LL.bind P fun t => mk_LL (op1 54) [t]) (LL.ite (⟨#[115, 101, 116, 116, 108, 101]⟩ : ByteArray) (LL.bind P fun t => mk_LL (op1 55) [t]) (LL.bind PR fun t => I t)))) (fun l g => by rw [preS])
    · exact LL.of (LL.ite (⟨#[91]⟩ : ByteArray) (LL.bind (A 0) fun u => LL.must (⟨#[93]⟩ : ByteArray) (LL.at_ (fun c => I c) (fun g => (ofS (op1 42) [t, u] g).1) (fun g => (ofS (op1 42) [t, u] g).2))) (LL.ret (fun _ => t) (fun g => g))) (fun l g => by rw [idxS])
    · exact LL.of (LL.bind (A 0) fun t => LL.ite e (LL.ret (fun _ => acc ++ [t]) (fun g => g)) (LL.must (⟨#[44]⟩ : ByteArray) (LS e (acc ++ [t])))) (fun l g => by rw [listS])
    · exact LL.of (LL.must (⟨#[40]⟩ : ByteArray) (LL.bind (A 0) fun t => LL.must (⟨#[41]⟩ : ByteArray) (mk_LL (op1 op) [t]))) (fun l g => by rw [oneS])
    · exact LL.of (LL.ite (⟨#[110, 111, 110, 101]⟩ : ByteArray) (atom 20) (LL.ite (⟨#[116, 114, 117, 101]⟩ : ByteArray) (atom 21) (LL.ite (⟨#[102, 97, 108, 115, 101]⟩ : ByteArray) (atom 22) (LL.ite (⟨#[118, 101, 114, 115, 105, 111, 110]⟩ : ByteArray) (atom 57) (LL.ite (⟨#[91]⟩ : ByteArray) (LL.ite (⟨#[93]⟩ : ByteArray) (mk_LL (op1 25) []) (LL.bind (LS _ _) fun ps => mk_LL (op1 25) ps)) (LL.ite (⟨#[40]⟩ : ByteArray) (LL.bind (A 0) fun t => LL.must (⟨#[41]⟩ : ByteArray) (LL.ret (fun _ => t) (fun g => g)))
        (LL.ite (⟨#[108, 101, 110]⟩ : ByteArray) (O 45) (LL.ite (⟨#[114, 101]⟩ : ByteArray) (O 46) (LL.ite (⟨#[105, 109]⟩ : ByteArray) (O 47) (LL.ite (⟨#[99, 111, 110, 106]⟩ : ByteArray) (O 48) (LL.ite (⟨#[116, 105, 109, 101, 114]⟩ : ByteArray) (O 52) (LL.ite (⟨#[110, 117, 109]⟩ : ByteArray) (LL.must (⟨#[40]⟩ : ByteArray) (LL.bind (A 0) fun a => LL.must (⟨#[44]⟩ : ByteArray) (LL.bind (A 0) fun b => LL.must (⟨#[41]⟩ : ByteArray) (mk_LL (op1 41) [a, b])))) (LL.ite (⟨#[102, 111, 114, 107]⟩ : ByteArray) (LL.bind B fun t => mk_LL (op1 53) [t])
        (LL.ite (⟨#[116, 97, 107, 101]⟩ : ByteArray) (LL.own fun s => LL.ret (fun _ => [opT 56 s]) (fun g => g)) (LL.ite (⟨#[99, 97, 108, 108]⟩ : ByteArray) (asked 50) (LL.ite (⟨#[99, 104, 105, 108, 100]⟩ : ByteArray) (asked 51) LL.bad)))))))))))))))) (fun l g => by rw [wordS])
    · exact LL.of (LL.must (⟨#[123]⟩ : ByteArray) (SS [])) (fun l g => by rw [blockS])
    · exact LL.of (LL.ite (⟨#[125]⟩ : ByteArray) (mk_LL (op1 3) acc) (LL.bind ST fun t => SS (acc ++ [t]))) (fun l g => by rw [stmtsS])
    · exact LL.of (LL.mine (set_ 5) (LL.ite (⟨#[108, 101, 116]⟩ : ByteArray) (set_ 4) (LL.ite (⟨#[105, 102]⟩ : ByteArray) (LL.bind (A 0) fun c => LL.bind B fun b => LL.ite (⟨#[101, 108, 115, 101]⟩ : ByteArray) (LL.bind B fun d => mk_LL (op1 6) [c, b, d]) (mk_LL (op1 6) [c, b])) (LL.ite (⟨#[119, 104, 105, 108, 101]⟩ : ByteArray) (LL.bind (A 0) fun c => LL.bind B fun b => mk_LL (op1 7) [c, b])
        (LL.ite (⟨#[114, 101, 116, 117, 114, 110]⟩ : ByteArray) (last 8) (LL.ite (⟨#[102, 97, 105, 108]⟩ : ByteArray) (last 9) (LL.ite (⟨#[115, 108, 101, 101, 112]⟩ : ByteArray) (last 10) (LL.ite (⟨#[100, 111]⟩ : ByteArray) (last 11) LL.bad)))))))) (fun l g => by rw [stmtS])
theorem flow_LL (k : Nat) : LL (flowS k) :=
  LL.of (LL.must (⟨#[102, 108, 111, 119]⟩ : ByteArray) (LL.own fun s => LL.must (⟨#[40]⟩ : ByteArray) (LL.bind (LL.ite (⟨#[41]⟩ : ByteArray) (LL.ret (fun _ => ([] : List (List Twg))) (fun g => g)) (parS_LL k [])) fun ps => LL.bind (all_LL k).2.2.2.2.2.2.2.2.1 fun b => mk_LL (opT 1 s) (ps ++ [b])))) (fun l g => by rw [flowS])
end Go.Proofs.Ytlbchdalimngjaa.P
namespace Go.Proofs.Ytlbchdalimngjaa.P
open Go.RowKit Go.Proofs.YtlbchdalimngjaaW.PrintWords Go.Proofs.YtlbchdalimngjaaW.PrintLast Go.Proofs.YtlbchdalimngjaaW.PrintMore
attribute [local go_sem] max2_int min2_int max_two min_two max_three min_three max_four min_four
set_option linter.unusedVariables false
set_option linter.unusedSimpArgs false
theorem eqA33 (d : Nat) (w : World) (x0 y0 : Int) (x1 y1 : ByteArray) (x2 y2 : Int) (x3 y3 : Int) :
    (Op.equalIn (d + 2) 33 (.agg #[.int .u8 x0, .string x1, .int .i64 x2, .int .i64 x3]) (.agg #[.int .u8 y0, .string y1, .int .i64 y2, .int .i64 y3])).run Try.prog w = .ok (x0 == y0 && (x1.toList == y1.toList && (x2 == y2 && (x3 == y3)))) w := by
  refine eqA_of Try.underlying33 (by kernel_rfl) ?_
  refine eqf_cons (by rfl) (by go_simp; rfl) (by go_simp; rfl) (by go_simp) ?_
  refine eqf_cons (by rfl) (by go_simp; rfl) (by go_simp; rfl) (by go_simp) ?_
  refine eqf_cons (by rfl) (by go_simp; rfl) (by go_simp; rfl) (by go_simp) ?_
  exact eqf_last (by rfl) (by go_simp; rfl) (by go_simp; rfl) (by go_simp)
end Go.Proofs.Ytlbchdalimngjaa.P
namespace Go.Proofs.Ytlbchdalimngjaa.P
open Go.RowKit Go.Proofs.YtlbchdalimngjaaW.PrintWords Go.Proofs.YtlbchdalimngjaaW.PrintLast Go.Proofs.YtlbchdalimngjaaW.PrintMore
attribute [local go_sem] max2_int min2_int max_two min_two max_three min_three max_four min_four
set_option linter.unusedVariables false
set_option linter.unusedSimpArgs false
theorem bytes_gt : ∀ (x y : List UInt8), (!(Op.bytesLess x y || x == y)) = Op.bytesLess y x
  | [], [] => by simp [Op.bytesLess]
  | [], b :: y => by simp [Op.bytesLess]
  | a :: x, [] => by simp [Op.bytesLess]
  | a :: x, b :: y => by
    have ih := bytes_gt x y
    simp only [Op.bytesLess]
    by_cases h : a = b
    · subst h
      have hlt : decide (a < a) = false := by simp
      rw [hlt, ← ih]
      simp
    · have h1 : (a == b) = false := by simpa using h
      have h2 : (b == a) = false := by simpa using fun e => h e.symm
      have h3 : (a :: x == b :: y) = false := by simp [h]
      rw [h1, h2, h3]
      have h4 : ¬ a.toNat = b.toNat := fun e => h (UInt8.toNat_inj.mp e)
      simp only [Bool.false_and, Bool.or_false]
      rw [Bool.eq_iff_iff]
      simp [UInt8.lt_iff_toNat_lt]
      omega
theorem gtr_max (t : TypeId) (a : ByteArray) : binOp .gtr t (.string a) (.string ⟨#[57, 50, 50, 51, 51, 55, 50, 48, 51, 54, 56, 53, 52, 55, 55, 53, 56, 48, 55]⟩) = pure (.bool (Op.bytesLess [57, 50, 50, 51, 51, 55, 50, 48, 51, 54, 56, 53, 52, 55, 55, 53, 56, 48, 55] a.toList)) := by
  have h : ∀ b : ByteArray, binOp .gtr t (.string a) (.string b) = pure (.bool (!(Op.bytesLess a.toList b.toList || a.toList == b.toList))) := fun b => by rfl
  rw [h, bytes_gt]
  simp only [ByteArray.toList_eq]
attribute [local go_sem high] gtr_max
end Go.Proofs.Ytlbchdalimngjaa.P
namespace Go.Proofs.Ytlbchdalimngjaa.Lex
open Go.RowKit Go.Proofs.YtlbchdalimngjaaW.PrintWords Go.Proofs.YtlbchdalimngjaaW.PrintLast Go.Proofs.Ytlbchdalimngjaa.P
set_option linter.unusedVariables false
set_option linter.unusedSimpArgs false
theorem one_bad {c : UInt8} {cs : List UInt8} {o e : Nat} (h : one (c :: cs) = .bad o e) : e ≠ 0 := by
  rw [one] at h
  split at h
  · cases h
  split at h
  · cases h
  split at h
  · split at h
    · cases h; decide
    · cases h
  split at h
  · exact num_bad h
  split at h
  · exact text_bad (by simp) h
  unfold sgn at h
  split at h
  · split at h <;> (cases h; decide)
  split at h
  · cases h; decide
  split at h <;> cases h
theorem toks_bad : ∀ (n : Nat) (cs : List UInt8) (p : Nat) (acc : List LTok) (q e : Nat), toks n cs p acc = .error (q, e) → e ≠ 0
  | 0, _, _, _, _, _, h => by cases h
  | n + 1, [], _, _, _, _, h => by cases h
  | n + 1, c :: cs, p, acc, q, e, h => by
    rw [toks] at h
    cases ho : one (c :: cs) with
    | skip m => rw [ho] at h; exact toks_bad n _ _ _ _ _ h
    | tok kd t v m => rw [ho] at h; exact toks_bad n _ _ _ _ _ h
    | bad o e' => rw [ho] at h; cases h; exact one_bad ho
theorem lexAll_bad {cs : List UInt8} {q e : Nat} (h : lexAll cs = .error (q, e)) : e ≠ 0 := by
  unfold lexAll at h
  split at h
  · cases h; decide
  · exact toks_bad _ _ _ _ _ _ h
theorem lexAll_lx {cs : List UInt8} (h : cs.length ≤ 16384) : lexAll cs = lx cs 0 [] := by
  unfold lexAll lx
  rw [if_neg (by omega)]
theorem size_list (s : ByteArray) : s.data.toList.length = s.size := by simp
end Go.Proofs.Ytlbchdalimngjaa.Lex
namespace Go.Proofs.Ytlbchdalimngjaa.Lex
open Go.RowKit Go.Proofs.YtlbchdalimngjaaW.PrintWords Go.Proofs.YtlbchdalimngjaaW.PrintLast Go.Proofs.Ytlbchdalimngjaa.P
set_option linter.unusedVariables false
set_option linter.unusedSimpArgs false
theorem chr_bad_at {l : List UInt8} {p e : Nat} (h : chr l = .error (p, e)) : p ≤ l.length ∧ (e = 4 → p = l.length) := by
  unfold chr at h
  repeat' split at h
  all_goals first | (cases h; done) | (simp at h; (obtain ⟨rfl, rfl⟩ := h); simp)
theorem text_bad_at {n : Nat} {cs : List UInt8} {o : Nat} {out : List UInt8} (hn : cs.length < n) : ∀ {p e}, textGo n cs o out = .bad p e → p ≤ o + cs.length ∧ (e = 4 → p = o + cs.length) := by
  induction n generalizing cs o out with
  | zero => exact absurd hn (Nat.not_lt_zero _)
  | succ n ih =>
    intro p e h
    cases cs with
    | nil => simp [textGo] at h; simp; omega
    | cons c cs =>
      rw [textGo] at h
      by_cases hq : c.toNat = 34
      · rw [if_pos hq] at h; cases h
      rw [if_neg hq] at h
      generalize hc : chr (c :: cs) = q at h
      cases q with
      | error q =>
        obtain ⟨a, b⟩ := q
        cases h
        obtain ⟨h1, h2⟩ := chr_bad_at hc
        exact ⟨by omega, fun he => by rw [h2 he]⟩
      | ok q =>
        obtain ⟨x, m⟩ := q
        dsimp only at h
        obtain ⟨h1, h2⟩ := chr_ok hc
        split at h
        · cases h; exact ⟨by omega, fun he => by cases he⟩
        · have := ih (by simp at hn ⊢; omega) h
          rw [List.length_drop] at this
          exact ⟨by omega, fun he => by have := this.2 he; omega⟩
theorem num_bad_at {cs : List UInt8} {p e : Nat} (h : num cs = .bad p e) : p ≤ cs.length ∧ e ≠ 4 := by
  have hl := takeWhile_le isDig cs
  unfold num at h
  dsimp only at h
  split at h
  · rename_i h1
    cases h
    exact ⟨by omega, by decide⟩
  split at h
  · cases h; exact ⟨by omega, by decide⟩
  split at h
  · split at h
    · cases h; exact ⟨hl, by decide⟩
    · cases h
  · cases h
theorem one_bad_at {c : UInt8} {cs : List UInt8} {o e : Nat} (h : one (c :: cs) = .bad o e) : o ≤ (c :: cs).length ∧ (e = 4 → o = (c :: cs).length) := by
  rw [one] at h
  split at h
  · cases h
  split at h
  · cases h
  split at h
  · split at h
    · cases h; exact ⟨by simp, fun he => by cases he⟩
    · cases h
  split at h
  · have := num_bad_at h
    exact ⟨this.1, fun he => absurd he this.2⟩
  split at h
  · have := text_bad_at (by simp) h
    exact ⟨by simp; omega, fun he => by have := this.2 he; simp; omega⟩
  unfold sgn at h
  split at h
  · split at h
    · rename_i h0
      cases h
      rw [h0]
      exact ⟨by simp, fun _ => by simp⟩
    · cases h; exact ⟨by simp, fun he => by cases he⟩
  split at h
  · cases h; exact ⟨by simp, fun he => by cases he⟩
  split at h <;> cases h
theorem toks_bad_at : ∀ (n : Nat) (cs : List UInt8) (p : Nat) (acc : List LTok) (q e : Nat), toks n cs p acc = .error (q, e) → q ≤ p + cs.length ∧ (e = 4 → q = p + cs.length)
  | 0, _, _, _, _, _, h => by cases h
  | n + 1, [], _, _, _, _, h => by cases h
  | n + 1, c :: cs, p, acc, q, e, h => by
    rw [toks] at h
    cases ho : one (c :: cs) with
    | skip m =>
      rw [ho] at h
      have h2 := one_skip ho
      have := toks_bad_at n _ _ _ _ _ h
      rw [List.length_drop] at this
      exact ⟨by omega, fun he => by have := this.2 he; omega⟩
    | tok kd t v m =>
      rw [ho] at h
      have h2 := one_tok ho
      have := toks_bad_at n _ _ _ _ _ h
      rw [List.length_drop] at this
      exact ⟨by omega, fun he => by have := this.2 he; omega⟩
    | bad o e' =>
      rw [ho] at h
      cases h
      have := one_bad_at ho
      exact ⟨by omega, fun he => by have := this.2 he; omega⟩
theorem lexAll_bad_at {cs : List UInt8} {q e : Nat} (h : lexAll cs = .error (q, e)) : q ≤ cs.length ∧ (e = 4 → q = cs.length) := by
  unfold lexAll at h
  split at h
  · cases h; exact ⟨by omega, fun he => by cases he⟩
  · have := toks_bad_at _ _ _ _ _ _ h
    exact ⟨by omega, fun he => by have := this.2 he; omega⟩
theorem lexAll_pos {cs : List UInt8} {l : List LTok} (h : lexAll cs = .ok l) : ∀ t ∈ l, t.pos < cs.length := by
  have go : ∀ (n : Nat) (cs : List UInt8) (p : Nat) (acc l : List LTok), toks n cs p acc = .ok l → ∀ t ∈ l, t ∈ acc ∨ t.pos < p + cs.length := by
    intro n
    induction n with
    | zero => intro cs p acc l h t ht; cases h; exact .inl ht
    | succ n ih =>
      intro cs p acc l h t ht
      cases cs with
      | nil => cases h; exact .inl ht
      | cons c cs =>
        rw [toks] at h
        cases ho : one (c :: cs) with
        | skip m =>
          rw [ho] at h
          have h2 := one_skip ho
          rcases ih _ _ _ _ h t ht with x | x
          · exact .inl x
          · rw [List.length_drop] at x; exact .inr (by omega)
        | tok kd tx v m =>
          rw [ho] at h
          have h2 := one_tok ho
          rcases ih _ _ _ _ h t ht with x | x
          · rcases List.mem_append.1 x with y | y
            · exact .inl y
            · rw [List.mem_singleton] at y
              rw [y]
              exact .inr (by simp)
          · rw [List.length_drop] at x; exact .inr (by omega)
        | bad o e => rw [ho] at h; cases h
  unfold lexAll at h
  split at h
  · cases h
  intro t ht
  rcases go _ _ _ _ _ h t ht with x | x
  · cases x
  · omega
theorem tw_take (p : UInt8 → Bool) : ∀ (l : List UInt8) (n : Nat), (l.take n).takeWhile p = (l.takeWhile p).take n
  | [], n => by simp
  | c :: l, 0 => by simp
  | c :: l, n + 1 => by
    rw [List.take_succ_cons, List.takeWhile_cons, List.takeWhile_cons]
    split
    · rw [List.take_succ_cons, tw_take p l n]
    · simp
theorem chr_take {l : List UInt8} {q : UInt8 × Nat} (h : chr l = .ok q) (j : Nat) (h1 : 1 ≤ j) : (q.2 ≤ j ∧ chr (l.take j) = .ok q) ∨ (j < q.2 ∧ chr (l.take j) = .error (j, 4)) := by
  obtain ⟨j, rfl⟩ : ∃ i, j = i + 1 := ⟨j - 1, by omega⟩
  cases l with
  | nil => cases h
  | cons c l =>
    rw [List.take_succ_cons]
    unfold chr at h ⊢
    dsimp only at h ⊢
    split at h
    · cases h
    rename_i h1
    rw [if_neg h1]
    split at h
    · rename_i h2; rw [if_pos h2]; cases h; exact .inl ⟨by simp, rfl⟩
    rename_i h2
    rw [if_neg h2]
    cases l with
    | nil => cases h
    | cons d l =>
      cases j with
      | zero =>
        refine .inr ⟨?_, rfl⟩
        dsimp only at h
        repeat' split at h
        all_goals first | (cases h; done) | (cases h; simp)
      | succ j =>
        rw [List.take_succ_cons]
        dsimp only at h ⊢
        split at h
        · rename_i h3; rw [if_pos h3]; cases h; exact .inl ⟨by simp, rfl⟩
        rename_i h3
        rw [if_neg h3]
        split at h
        · rename_i h4; rw [if_pos h4]; cases h; exact .inl ⟨by simp, rfl⟩
        rename_i h4
        rw [if_neg h4]
        split at h
        · cases h
        rename_i h5
        rw [if_neg h5]
        cases l with
        | nil => cases h
        | cons a l =>
          dsimp only at h
          cases ha : hexVal a with
          | none => rw [ha] at h; cases h
          | some x =>
            rw [ha] at h
            dsimp only at h
            cases l with
            | nil => cases h
            | cons b l =>
              dsimp only at h
              cases hb : hexVal b with
              | none => rw [hb] at h; cases h
              | some y =>
                rw [hb] at h
                cases h
                match j with
                | 0 => exact .inr ⟨by simp, rfl⟩
                | 1 => refine .inr ⟨by simp, ?_⟩; rw [List.take_succ_cons]; dsimp only; rw [ha]; rfl
                | j + 2 => refine .inl ⟨by simp, ?_⟩; rw [List.take_succ_cons]; dsimp only; rw [ha, List.take_succ_cons]; dsimp only; rw [hb]
theorem text_take {n : Nat} {cs : List UInt8} {o : Nat} {out : List UInt8} {kd v m : Nat} {t : List UInt8} (h : textGo n cs o out = .tok kd t v m) (j : Nat) :
    ∀ n', (cs.take j).length < n' → (m ≤ o + j ∧ textGo n' (cs.take j) o out = .tok kd t v m) ∨ (o + j < m ∧ textGo n' (cs.take j) o out = .bad (o + j) 4) := by
  induction n generalizing cs o out j with
  | zero => simp [textGo] at h
  | succ n ih =>
    intro n' hn'
    obtain ⟨n', rfl⟩ : ∃ x, n' = x + 1 := ⟨n' - 1, by omega⟩
    have hlen := (text_len h).1
    cases cs with
    | nil => simp [textGo] at h
    | cons c cs =>
      cases j with
      | zero => exact .inr ⟨by omega, by simp [textGo]⟩
      | succ j =>
        rw [textGo] at h
        rw [List.take_succ_cons] at hn' ⊢
        rw [textGo]
        by_cases hq : c.toNat = 34
        · rw [if_pos hq] at h ⊢; cases h; exact .inl ⟨by omega, rfl⟩
        rw [if_neg hq] at h ⊢
        generalize hc : chr (c :: cs) = q at h
        cases q with
        | error q => cases h
        | ok q =>
          obtain ⟨x, y⟩ := q
          obtain ⟨h1, h2⟩ := chr_ok hc
          have ht := chr_take hc (j + 1) (by omega)
          rw [List.take_succ_cons] at ht
          dsimp only at h
          split at h
          · cases h
          rename_i hl
          have hm := (text_len h).1
          rcases ht with ⟨a, b⟩ | ⟨a, b⟩
          · dsimp only at a
            rw [b]
            dsimp only
            rw [if_neg hl]
            have e : (c :: cs.take j).drop y = ((c :: cs).drop y).take (j + 1 - y) := by rw [← List.take_succ_cons, List.drop_take]
            rw [e]
            have := ih h (j + 1 - y) n' (by rw [← e, List.length_drop]; simp only [List.length_cons] at hn' ⊢; omega)
            rw [show o + y + (j + 1 - y) = o + (j + 1) by omega] at this
            exact this
          · dsimp only at a
            rw [b]
            exact .inr ⟨by omega, rfl⟩
theorem digVal_ge : ∀ (ds : List UInt8) (a : Nat), a * 10 ^ ds.length ≤ ds.foldl (fun a d => 10 * a + (d.toNat - 48)) a
  | [], a => by simp
  | d :: ds, a => by
    rw [List.foldl_cons, List.length_cons, Nat.pow_succ]
    refine Nat.le_trans ?_ (digVal_ge ds _)
    have e : a * (10 ^ ds.length * 10) = (10 * a) * 10 ^ ds.length := by
      rw [Nat.mul_comm (10 ^ ds.length) 10, ← Nat.mul_assoc, Nat.mul_comm a 10]
    rw [e]
    exact Nat.mul_le_mul_right _ (Nat.le_add_right _ _)
theorem num_len {c : UInt8} {cs t : List UInt8} {kd v m : Nat} (hd : isDig c = true) (h : num (c :: cs) = .tok kd t v m) : m ≤ 19 := by
  obtain ⟨_, _, hm⟩ := num_tok h
  unfold num at h
  dsimp only at h
  split at h
  · cases h
  rename_i h1
  split at h
  · cases h
  rename_i h2
  clear h
  rw [List.takeWhile_cons_of_pos hd] at h1 h2 hm
  rw [hm, List.length_cons]
  rcases Nat.lt_or_ge (cs.takeWhile isDig).length 19 with h3 | h3
  · exact h3
  · exfalso
    obtain ⟨d1, d2⟩ := dig_bounds hd
    have hne : c.toNat ≠ 48 := by
      intro h4
      refine h1 ⟨?_, by rw [List.length_cons]; omega⟩
      rw [List.head?_cons, u8_eq (by omega) h4]
      rfl
    have h5 := digVal_ge (cs.takeWhile isDig) (10 * 0 + (c.toNat - 48))
    have h6 : (10 : Nat) ^ 19 ≤ 10 ^ (cs.takeWhile isDig).length := Nat.pow_le_pow_right (by omega) h3
    have h7 : 1 * 10 ^ (cs.takeWhile isDig).length ≤ (10 * 0 + (c.toNat - 48)) * 10 ^ (cs.takeWhile isDig).length := Nat.mul_le_mul_right _ (by omega)
    have h8 : digVal (c :: cs.takeWhile isDig) = (cs.takeWhile isDig).foldl (fun a d => 10 * a + (d.toNat - 48)) (10 * 0 + (c.toNat - 48)) := rfl
    rw [← h8] at h5
    rw [Nat.one_mul] at h7
    have h9 : maxI < 10 ^ 19 := by decide
    exact h2 (Nat.lt_of_lt_of_le h9 (Nat.le_trans h6 (Nat.le_trans h7 h5)))
theorem head_take {l : List UInt8} {n : Nat} (hn : 1 ≤ n) : (l.take n).head? = l.head? := by
  obtain ⟨n, rfl⟩ : ∃ i, n = i + 1 := ⟨n - 1, by omega⟩
  cases l <;> rfl
theorem num_take {c : UInt8} {cs t : List UInt8} {kd v m : Nat} (hd : isDig c = true) (h : num (c :: cs) = .tok kd t v m) (n : Nat) (hn : 1 ≤ n) :
    (m ≤ n ∧ num ((c :: cs).take n) = .tok kd t v m) ∨ (n < m ∧ n ≤ 24 ∧ ∃ kd t v, num ((c :: cs).take n) = .tok kd t v n) := by
  have h19 := num_len hd h
  obtain ⟨_, _, hm⟩ := num_tok h
  generalize c :: cs = l at *
  unfold num at h ⊢
  dsimp only at h ⊢
  rw [tw_take, head_take hn]
  split at h
  · cases h
  rename_i h1
  split at h
  · cases h
  rename_i h2
  rcases Nat.lt_or_ge n m with hlt | hge
  · refine .inr ⟨hlt, by omega, ?_⟩
    have e1 : ((l.takeWhile isDig).take n).length = n := by rw [List.length_take]; omega
    have e2 : ¬ maxI < digVal ((l.takeWhile isDig).take n) := by
      have := digVal_mono ((l.takeWhile isDig).take n) ((l.takeWhile isDig).drop n)
      rw [List.take_append_drop] at this
      exact fun h3 => h2 (Nat.lt_of_lt_of_le h3 this)
    rw [e1, if_neg (fun h3 => h1 ⟨h3.1, by omega⟩), if_neg e2, List.drop_of_length_le (by rw [List.length_take]; omega)]
    exact ⟨_, _, _, rfl⟩
  · refine .inl ⟨hge, ?_⟩
    rw [List.take_of_length_le (by omega), if_neg h1, if_neg h2]
    rcases Nat.eq_or_lt_of_le hge with e | e
    · rw [List.drop_of_length_le (l := l.take n) (by rw [List.length_take]; omega)]
      split at h
      · split at h
        · cases h
        · exact h
      · exact h
    · rw [List.drop_take, head_take (by omega)]
      exact h
theorem sgn_take {c : UInt8} {cs t : List UInt8} {kd v m : Nat} (h : sgn c cs = .tok kd t v m) (n : Nat) : (m ≤ n + 1 ∧ sgn c (cs.take n) = .tok kd t v m) ∨ (n + 1 < m ∧ n = 0 ∧ (sgn c [] = .bad 1 4 ∨ ∃ kd t v, sgn c [] = .tok kd t v 1)) := by
  cases n with
  | zero =>
    rw [List.take_zero]
    unfold sgn at h ⊢
    split at h
    · split at h <;> cases h
    rename_i h1
    split at h
    · cases h
    rename_i h2
    by_cases h3 : c.toNat = 33
    · rw [if_pos ⟨h3, by simp⟩, if_pos rfl]
      split at h
      · cases h; exact .inr ⟨by omega, rfl, .inl rfl⟩
      · rename_i h4
        exact absurd h3 (fun h3 => h1 ⟨h3, fun h5 => h4 ⟨.inr (.inr h3), h5⟩⟩)
    · rw [if_neg (fun h4 => h3 h4.1), if_neg h2, if_neg (by rintro ⟨_, b⟩; simp at b)]
      split at h
      · cases h; exact .inr ⟨by omega, rfl, .inr ⟨_, _, _, rfl⟩⟩
      · cases h; exact .inl ⟨by omega, rfl⟩
  | succ n =>
    refine .inl ⟨?_, ?_⟩
    · unfold sgn at h
      split at h
      · split at h <;> cases h
      split at h
      · cases h
      split at h <;> (cases h; omega)
    · unfold sgn at h ⊢
      rw [head_take (by omega)]
      split at h
      · split at h <;> cases h
      rename_i h1
      rw [if_neg h1]
      exact h
theorem one_take_skip {c : UInt8} {cs : List UInt8} {m : Nat} (h : one (c :: cs) = .skip m) (n : Nat) : (m ≤ n + 1 ∧ one (c :: cs.take n) = .skip m) ∨ (n + 1 < m ∧ one (c :: cs.take n) = .skip (n + 1)) := by
  rw [one] at h ⊢
  split at h
  · rename_i h1; rw [if_pos h1]; cases h; exact .inl ⟨by omega, rfl⟩
  rename_i h1
  rw [if_neg h1]
  split at h
  · rename_i h2
    rw [if_pos h2, tw_take]
    cases h
    rcases Nat.lt_or_ge n (cs.takeWhile fun d : UInt8 => decide (d.toNat ≠ 10)).length with hl | hl
    · refine .inr ⟨by omega, ?_⟩
      rw [List.length_take, Nat.min_eq_left (by omega), Nat.add_comm]
    · refine .inl ⟨by omega, ?_⟩
      rw [List.take_of_length_le hl]
  split at h
  · split at h <;> cases h
  split at h
  · exact absurd h num_kind
  split at h
  · exact absurd h text_ne
  unfold sgn at h
  split at h
  · split at h <;> cases h
  split at h
  · cases h
  split at h <;> cases h
theorem one_take_tok {c : UInt8} {cs t : List UInt8} {kd v m : Nat} (h : one (c :: cs) = .tok kd t v m) (n : Nat) :
    (m ≤ n + 1 ∧ one (c :: cs.take n) = .tok kd t v m) ∨ (n + 1 < m ∧ one (c :: cs.take n) = .bad (n + 1) 4) ∨ (n + 1 < m ∧ n + 1 ≤ 24 ∧ ∃ kd t v, one (c :: cs.take n) = .tok kd t v (n + 1)) := by
  rw [one] at h
  split at h
  · cases h
  rename_i h1
  split at h
  · cases h
  rename_i h2
  split at h
  · rename_i h3
    split at h
    · cases h
    rename_i h4
    cases h
    have e : ∀ l : List UInt8, ¬ 24 < 1 + (l.takeWhile isInn).length → one (c :: l) = .tok 1 (c :: l.takeWhile isInn) 0 (1 + (l.takeWhile isInn).length) := fun l hl => by rw [one, if_neg h1, if_neg h2, if_pos h3, if_neg hl]
    have hlt : ((cs.take n).takeWhile isInn).length ≤ (cs.takeWhile isInn).length := by rw [tw_take, List.length_take]; omega
    rw [e _ (by omega), tw_take]
    rcases Nat.lt_or_ge n (cs.takeWhile isInn).length with hl | hl
    · refine .inr (.inr ⟨by omega, by omega, 1, c :: (cs.takeWhile isInn).take n, 0, ?_⟩)
      rw [List.length_take, Nat.min_eq_left (by omega), Nat.add_comm 1 n]
    · refine .inl ⟨by omega, ?_⟩
      rw [List.take_of_length_le hl]
  rename_i h3
  split at h
  · rename_i h4
    have e : ∀ l : List UInt8, one (c :: l) = num (c :: l) := fun l => by rw [one, if_neg h1, if_neg h2, if_neg h3, if_pos h4]
    rw [e]
    have := num_take h4 h (n + 1) (by omega)
    rw [List.take_succ_cons] at this
    rcases this with ⟨a, b⟩ | ⟨a, b, d⟩
    · exact .inl ⟨a, b⟩
    · exact .inr (.inr ⟨a, b, d⟩)
  rename_i h4
  split at h
  · rename_i h5
    have e : ∀ l : List UInt8, one (c :: l) = textGo (c :: l).length l 1 [] := fun l => by rw [one, if_neg h1, if_neg h2, if_neg h3, if_neg h4, if_pos h5]
    rw [e]
    rcases text_take h n (c :: cs.take n).length (by simp) with ⟨a, b⟩ | ⟨a, b⟩
    · exact .inl ⟨by omega, b⟩
    · exact .inr (.inl ⟨by omega, by rw [b, Nat.add_comm]⟩)
  rename_i h5
  have e : ∀ l : List UInt8, one (c :: l) = sgn c l := fun l => by rw [one, if_neg h1, if_neg h2, if_neg h3, if_neg h4, if_neg h5]
  rw [e]
  rcases sgn_take h n with ⟨a, b⟩ | ⟨a, rfl, b | b⟩
  · exact .inl ⟨a, b⟩
  · exact .inr (.inl ⟨a, b⟩)
  · exact .inr (.inr ⟨a, by omega, b⟩)
theorem after_ok {acc : List LTok} {d : Nat} {x : Except (Nat × Nat) (List LTok)} {l : List LTok} (h : after acc d x = .ok l) : ∃ B, l = acc ++ B := by
  cases x with
  | error q => cases h
  | ok m => cases h; exact ⟨_, rfl⟩
theorem lx_cut : ∀ (k : Nat) (cs : List UInt8) (p : Nat) (acc l : List LTok) (n : Nat), cs.length < k → n ≤ cs.length → lx cs p acc = .ok l →
    (∃ q, lx (cs.take n) p acc = .error (q, 4)) ∨ (∃ A B C, l = A ++ B ∧ lx (cs.take n) p acc = .ok (A ++ C) ∧ (∀ t ∈ A, t ∈ acc ∨ t.pos < p + n) ∧ C.length ≤ 1 ∧ ∀ t ∈ C, p + n ≤ t.pos + 24)
  | 0, _, _, _, _, _, h, _, _ => absurd h (Nat.not_lt_zero _)
  | k + 1, cs, p, acc, l, 0, hk, hn, h => by
    rw [lx_at] at h
    obtain ⟨B, rfl⟩ := after_ok h
    exact .inr ⟨acc, B, [], rfl, by rw [List.take_zero, lx_nil, List.append_nil], fun t ht => .inl ht, by simp, by simp⟩
  | k + 1, [], p, acc, l, n + 1, hk, hn, h => absurd hn (Nat.not_succ_le_zero _)
  | k + 1, c :: cs, p, acc, l, n + 1, hk, hn, h => by
    rw [List.take_succ_cons]
    cases ho : one (c :: cs) with
    | bad o e => rw [lx_bad ho] at h; cases h
    | skip m =>
      obtain ⟨m1, m2⟩ := one_skip ho
      rw [lx_skip ho] at h
      rcases one_take_skip ho n with ⟨a, b⟩ | ⟨a, b⟩
      · rw [lx_skip b]
        have e : (c :: cs.take n).drop m = ((c :: cs).drop m).take (n + 1 - m) := by rw [← List.take_succ_cons, List.drop_take]
        rw [e]
        have := lx_cut k _ _ _ _ (n + 1 - m) (by rw [List.length_drop]; simp at hk ⊢; omega) (by rw [List.length_drop]; omega) h
        rw [show p + m + (n + 1 - m) = p + (n + 1) by omega] at this
        exact this
      · rw [lx_skip b, List.drop_of_length_le (by simp; omega), lx_nil]
        rw [lx_at] at h
        obtain ⟨B, rfl⟩ := after_ok h
        exact .inr ⟨acc, B, [], rfl, by rw [List.append_nil], fun t ht => .inl ht, by simp, by simp⟩
    | tok kd t v m =>
      obtain ⟨m1, m2⟩ := one_tok ho
      rw [lx_tok ho] at h
      rcases one_take_tok ho n with ⟨a, b⟩ | ⟨a, b⟩ | ⟨a, a2, kd', t', v', b⟩
      · rw [lx_tok b]
        have e : (c :: cs.take n).drop m = ((c :: cs).drop m).take (n + 1 - m) := by rw [← List.take_succ_cons, List.drop_take]
        rw [e]
        have := lx_cut k _ _ _ _ (n + 1 - m) (by rw [List.length_drop]; simp at hk ⊢; omega) (by rw [List.length_drop]; omega) h
        rw [show p + m + (n + 1 - m) = p + (n + 1) by omega] at this
        rcases this with x | ⟨A, B, C, x1, x2, x3, x4⟩
        · exact .inl x
        · refine .inr ⟨A, B, C, x1, x2, fun t ht => ?_, x4⟩
          rcases x3 t ht with y | y
          · rcases List.mem_append.1 y with z | z
            · exact .inl z
            · rw [List.mem_singleton] at z
              rw [z]
              exact .inr (by dsimp only; omega)
          · exact .inr y
      · exact .inl ⟨_, lx_bad b p acc⟩
      · rw [lx_tok b, List.drop_of_length_le (by simp; omega), lx_nil]
        rw [lx_at] at h
        obtain ⟨B, rfl⟩ := after_ok h
        refine .inr ⟨acc, _, _, List.append_assoc _ _ _, rfl, fun t ht => .inl ht, by simp, fun t ht => ?_⟩
        rw [List.mem_singleton] at ht
        rw [ht]
        dsimp only
        omega
end Go.Proofs.Ytlbchdalimngjaa.Lex
namespace Go.Proofs.Ytlbchdalimngjaa.P
open Go.RowKit Go.Proofs.YtlbchdalimngjaaW.PrintWords Go.Proofs.YtlbchdalimngjaaW.PrintLast Go.Proofs.Ytlbchdalimngjaa.Lex Go.Proofs.Ytlbchdalimngjaa.Tree
set_option linter.unusedVariables false
set_option linter.unusedSimpArgs false
def faultA (l : List Tok) (size : Int) : Int × Int := match l with
  | [] => (size, 4)
  | x :: _ => (x.f3, 9)
def endS (k : Nat) (size : Int) (r : Res) : Option (List Twg × Int × Int) := match r with
  | .bad l' => some ([], (faultA l' size).1, (faultA l' size).2)
  | .ok t l' lg => if l'.length > 0 then some ([], (faultA l' size).1, (faultA l' size).2) else (tree_Check.f k t).bind fun c => if lg = true then some ([], 0, 2) else if c.2 = 0 then some (t, 0, 0) else some ([], 0, 2)
def wholeS (k : Nat) (S : Pr (List Twg)) (size : Int) (l : List Tok) : Option (List Twg × Int × Int) := (S l false).bind fun r => endS k size r
def allS (k : Nat) (S : Pr (List Twg)) (s : ByteArray) : Option (List Twg × Int × Int) := (token_All.f k s).bind fun q => if q.2.2 = 0 then wholeS k S (s.size : Int) q.1 else some ([], q.2.1, q.2.2)
theorem endS_mono (k : Nat) (size : Int) (r : Res) : LeO (endS k size r) (endS (k + 1) size r) := by
  cases r with
  | bad l => exact LeO.refl _
  | ok t l lg => exact LeO.ite (LeO.refl _) (LeO.bind (tree_Check.mono _ _) fun _ => LeO.refl _)
theorem allS_mono {S : Nat → Pr (List Twg)} (h : ∀ k l g, LeO (S k l g) (S (k + 1) l g)) (k : Nat) (s : ByteArray) : LeO (allS k (S k) s) (allS (k + 1) (S (k + 1)) s) :=
  LeO.bind (token_All.mono _ _) fun q => LeO.ite (LeO.bind (h _ _ _) fun r => endS_mono _ _ _) (LeO.refl _)
def parse_Flow.f (k : Nat) (s : ByteArray) : Option (List Twg × Int × Int) := allS k (flowS k) s
def parse_Expr.f (k : Nat) (s : ByteArray) : Option (List Twg × Int × Int) := allS k (levS k 0) s
theorem parse_Flow.mono : ∀ s k, LeO (parse_Flow.f k s) (parse_Flow.f (k + 1) s) := fun s k => allS_mono (S := fun k => flowS k) flow_mono k s
theorem parse_Expr.mono : ∀ s k, LeO (parse_Expr.f k s) (parse_Expr.f (k + 1) s) := fun s k => allS_mono (S := fun k => levS k 0) expr_mono k s
def OutS (S : Nat → Pr (List Twg)) (s : ByteArray) (r : List Twg × Int × Int) : Prop :=
  (∃ p e, lexAll s.data.toList = .error (p, e) ∧ r = ([], (p : Int), (e : Int))) ∨
  (∃ T k res, lexAll s.data.toList = .ok T ∧ S k (T.map LTok.S) false = some res ∧
    ((∃ q, res.rest = q ∧ (q ≠ [] ∨ ∃ l, res = .bad l) ∧ r = ([], (faultA q (s.size : Int)).1, (faultA q (s.size : Int)).2)) ∨
     (∃ t lg c, res = .ok t [] lg ∧ Ev (fun k => tree_Check.f k t) c ∧ r = if lg = true then ([], 0, 2) else if c.2 = 0 then (t, 0, 0) else ([], 0, 2))))
theorem leO_le {α : Type} {g : Nat → Option α} (h : ∀ k, LeO (g k) (g (k + 1))) {k m : Nat} {r : α} (e : g k = some r) (hm : k ≤ m) : g m = some r := by
  induction m with
  | zero => rw [show k = 0 by omega] at e; exact e
  | succ m ih =>
    rcases Nat.lt_or_ge k (m + 1) with h1 | h1
    · exact h m _ (ih (by omega))
    · rw [show k = m + 1 by omega] at e; exact e
theorem all_out {S : Nat → Pr (List Twg)} (hm : ∀ k l g, LeO (S k l g) (S (k + 1) l g)) (hs : ∀ l g, ∃ k r, S k l g = some r) (s : ByteArray) : ∃ r, Ev (fun k => allS k (S k) s) r ∧ OutS S s r := by
  have ha := all_is s
  cases hl : lexAll s.data.toList with
  | error pe =>
    obtain ⟨p, e⟩ := pe
    rw [hl] at ha
    have he := lexAll_bad hl
    exact ⟨_, Ev.bind ha (Ev.congr (f := fun _ => some _) (fun k => if_neg (show ¬ (e : Int) = 0 by omega)) (Ev.now _)), .inl ⟨p, e, hl, rfl⟩⟩
  | ok T =>
    rw [hl] at ha
    obtain ⟨k, res, hr⟩ := hs (T.map LTok.S) false
    have hE : Ev (fun k => S k (T.map LTok.S) false) res := Ev.of (fun k => hm k _ _) hr
    cases res with
    | bad q =>
      exact ⟨_, Ev.bind ha (Ev.congr (fun k => if_pos rfl) (Ev.bind (f := fun k r => endS k (s.size : Int) r) hE (Ev.now _))), .inr ⟨T, k, _, hl, hr, .inl ⟨q, rfl, .inr ⟨q, rfl⟩, rfl⟩⟩⟩
    | ok t q lg =>
      cases q with
      | cons x m =>
        exact ⟨_, Ev.bind ha (Ev.congr (fun k => if_pos rfl) (Ev.bind (f := fun k r => endS k (s.size : Int) r) hE (Ev.congr (f := fun _ => some _) (fun k => by unfold endS; exact if_pos (by simp)) (Ev.now _)))), .inr ⟨T, k, _, hl, hr, .inl ⟨x :: m, rfl, .inl (by simp), rfl⟩⟩⟩
      | nil =>
        obtain ⟨c, c1, _⟩ := check_both t
        refine ⟨if lg = true then ([], 0, 2) else if c.2 = 0 then (t, 0, 0) else ([], 0, 2), Ev.bind ha (Ev.congr (fun k => if_pos rfl) (Ev.bind (f := fun k r => endS k (s.size : Int) r) hE (Ev.congr (f := fun k => (tree_Check.f k t).bind fun c => if lg = true then some ([], 0, 2) else if c.2 = 0 then some (t, 0, 0) else some ([], 0, 2)) (fun k => by unfold endS; exact if_neg (by simp)) (Ev.bind c1 ?_)))), .inr ⟨T, k, _, hl, hr, .inr ⟨t, lg, c, rfl, c1, rfl⟩⟩⟩
        refine Ev.congr (f := fun _ => some _) (fun k => ?_) (Ev.now _)
        cases lg
        · by_cases h0 : c.2 = 0 <;> simp [h0]
        · simp
theorem flow_out (s : ByteArray) : ∃ r, Ev (fun k => parse_Flow.f k s) r ∧ OutS flowS s r := all_out flow_mono flow_some s
section
variable {S : Nat → Pr (List Twg)} {s : ByteArray} {r : List Twg × Int × Int}
theorem rest_mem {P : Pr (List Twg)} (hL : LL P) {l : List Tok} {g : Bool} {res : Res} (h : P l g = some res) {x : Tok} {m : List Tok} (hq : res.rest = x :: m) : x ∈ l := by
  obtain ⟨p, e, _⟩ := hL _ _ _ h
  rw [e, hq]
  simp
theorem OutS.at_ (hL : ∀ k, LL (S k)) (h : OutS S s r) : 0 ≤ r.2.1 ∧ r.2.1 ≤ (s.size : Int) ∧ (r.2.2 = 4 → r.2.1 = (s.size : Int)) := by
  rcases h with ⟨p, e, hl, rfl⟩ | ⟨T, k, res, hl, hr, ⟨q, hq, _, rfl⟩ | ⟨t, lg, c, _, _, rfl⟩⟩
  · have := lexAll_bad_at hl
    rw [size_list] at this
    exact ⟨by dsimp only; omega, by dsimp only; omega, fun h => by dsimp only at h ⊢; have := this.2 (by omega); omega⟩
  · cases q with
    | nil => exact ⟨by simp [faultA], by simp [faultA], fun _ => rfl⟩
    | cons x m =>
      have hx := rest_mem (hL k) hr hq
      obtain ⟨t, ht, rfl⟩ := List.mem_map.1 hx
      have := lexAll_pos hl t ht
      rw [size_list] at this
      refine ⟨?_, ?_, fun h => ?_⟩
      · show (0 : Int) ≤ (t.pos : Int); omega
      · show (t.pos : Int) ≤ _; omega
      · cases h
  · cases lg
    · by_cases h0 : c.2 = 0
      · simp [h0]
      · simp [h0]
    · simp
theorem OutS.nine (hL : ∀ k, LL (S k)) (h : OutS S s r) {T : List LTok} (hT : lexAll s.data.toList = .ok T) (h9 : r.2.2 = 9) : ∃ k res x m, S k (T.map LTok.S) false = some res ∧ res.rest = x :: m ∧ r.2.1 = x.f3 := by
  rcases h with ⟨p, e, hl, rfl⟩ | ⟨T', k, res, hl, hr, ⟨q, hq, _, rfl⟩ | ⟨t, lg, c, _, _, rfl⟩⟩
  · rw [hl] at hT; cases hT
  · rw [hl] at hT
    injection hT with hT
    subst hT
    cases q with
    | nil => cases h9
    | cons x m => exact ⟨k, res, x, m, hr, hq, rfl⟩
  · cases lg
    · by_cases h0 : c.2 = 0
      · simp [h0] at h9
      · simp [h0] at h9
    · simp at h9
theorem OutS.cut (hm : ∀ k l g, LeO (S k l g) (S (k + 1) l g)) (hL : ∀ k, LL (S k)) (h : OutS S s r) {T : List LTok} (hT : lexAll s.data.toList = .ok T) (h9 : r.2.2 = 9) {n : Nat} (hn : n ≤ s.size) (hat : (n : Int) ≤ r.2.1)
    {s' : ByteArray} (hs' : s'.data.toList = s.data.toList.take n) {r' : List Twg × Int × Int} (h' : OutS S s' r') (h9' : r'.2.2 = 9) : (n : Int) - 24 ≤ r'.2.1 := by
  obtain ⟨k, res, x, m, hr, hq, hx⟩ := h.nine hL hT h9
  have hsz : s.data.toList.length ≤ 16384 := by
    unfold lexAll at hT
    split at hT
    · cases hT
    · omega
  have hlx : lx s.data.toList 0 [] = .ok T := by rw [← lexAll_lx hsz]; exact hT
  have hsz' : s'.data.toList.length ≤ 16384 := by rw [hs', List.length_take]; omega
  rcases lx_cut _ _ _ _ _ n (Nat.lt_succ_self _) (by rw [size_list]; exact hn) hlx with ⟨q, e⟩ | ⟨A, B, C, hAB, e, hA, hC1, hC2⟩
  · rw [← hs', ← lexAll_lx hsz'] at e
    rcases h' with ⟨p, e2, hl, rfl⟩ | ⟨T', _, _, hl, _⟩
    · rw [hl] at e
      injection e with e
      injection e with _ e
      subst e
      cases h9'
    · rw [hl] at e; cases e
  · rw [← hs', ← lexAll_lx hsz'] at e
    obtain ⟨k', res', x', m', hr', hq', hx'⟩ := h'.nine hL e h9'
    rw [hAB, List.map_append] at hr
    rw [List.map_append] at hr'
    have g1 : S (max k k') (A.map LTok.S ++ B.map LTok.S) false = some res := leO_le (g := fun k => S k (A.map LTok.S ++ B.map LTok.S) false) (fun k => hm k _ _) hr (by omega)
    have g2 : S (max k k') (A.map LTok.S ++ C.map LTok.S) false = some res' := leO_le (g := fun k => S k (A.map LTok.S ++ C.map LTok.S) false) (fun k => hm k _ _) hr' (by omega)
    have hb : res.rest.length ≤ (B.map LTok.S).length := by
      obtain ⟨p, ep, _⟩ := hL _ _ _ _ g1
      rw [hq] at ep
      rcases List.append_eq_append_iff.1 ep with ⟨a, _, h4⟩ | ⟨c, h3, h4⟩
      · rw [hq, h4, List.length_append]; omega
      · cases c with
        | nil => rw [hq, h4, List.nil_append]; exact Nat.le_refl _
        | cons y c =>
          exfalso
          injection h4 with h4 _
          subst h4
          have hmem : x ∈ A.map LTok.S := by rw [h3]; simp
          obtain ⟨t, ht, rfl⟩ := List.mem_map.1 hmem
          have := hA t ht
          simp only [List.not_mem_nil, false_or] at this
          have e3 : (t.S).f3 = (t.pos : Int) := rfl
          rw [e3] at hx
          omega
    have hc := (hL _).behind g1 g2 hb
    obtain ⟨p, ep, _⟩ := hL _ _ _ _ g2
    rw [hq'] at hc ep
    rw [List.length_map, List.length_cons] at hc
    match C, hC1, hC2 with
    | [], _, _ => simp at hc
    | [y], _, hC2 =>
      have hm' : m' = [] := by cases m' with | nil => rfl | cons _ _ => simp at hc
      subst hm'
      have := List.append_inj_right' ep rfl
      simp at this
      rw [hx', ← this]
      have := hC2 y (by simp)
      show _ ≤ (y.pos : Int)
      omega
    | _ :: _ :: _, h, _ => simp at h
end
end Go.Proofs.Ytlbchdalimngjaa.P
