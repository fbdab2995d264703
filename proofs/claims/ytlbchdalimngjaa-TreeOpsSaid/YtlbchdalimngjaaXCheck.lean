/- Proved here: what tree.Check computes: whether twigs are a right tree, or where they go wrong, in the form that the printed callers ask (no condition beyond its pure answer being told). -/
import Derived.Test.YtlbchdalimngjaaXChkd
namespace Go.Proofs.Ytlbchdalimngjaa.P
open Go.RowKit Go.Proofs.YtlbchdalimngjaaW.PrintWords Go.Proofs.YtlbchdalimngjaaW.PrintLast Go.Proofs.YtlbchdalimngjaaW.PrintMore
open Go.Instr
attribute [local go_sem] mk_run mk_events max2_int min2_int max_two min_two max_three min_three max_four min_four
set_option linter.unusedVariables false
set_option linter.unusedSimpArgs false
theorem far_get {w5 : World} {bw bd : Nat} {ty : TypeId} {u : Value} (h : w5.heap[bd]? = some (.cells #[u] ty (0, 0))) (hn : bd ≠ bw) :
    (w5.setCell ⟨bw, 0, none⟩ (.int .i64 (-1))).cell? ⟨bd, 0, none⟩ = some u ∧ (w5.setCell ⟨bw, 0, none⟩ (.int .i64 (-1))).frozen? ⟨bd, 0, none⟩ = false :=
  ⟨(blk_cell (obj_far h hn) 0).trans rfl, blk_frozen (obj_far h hn) 0⟩
set_option maxHeartbeats 8000000 in
set_option maxRecDepth 100000 in
theorem chk_walk {w0 : World} {l : List S43} {A : Option Addr} {c bt b bm bw bd bk : Nat} (hl : l.length ≤ 2048) : ∀ (k : Nat) (at_ lv : Int) (mf : Nat) (mcap : List Value) (p : Int → Bool) (wg dp r1 r2 r3 : Int) (w : World),
    ChkEnv w0 w l A c bt b bm bw bd bk wg dp → Enters mf → May w bw bd mf mcap p → tree_Check.walk l k at_ lv p wg dp = some (r1, r2, r3) →
    Calls Try.prog 52 #[.int .i64 at_, .int .i64 lv, .func (.func mf) #[] mcap.toArray, .pointer (some ⟨bt, 0, none⟩), .pointer (some ⟨bw, 0, none⟩), .pointer (some ⟨bm, 0, none⟩), .pointer (some ⟨bd, 0, none⟩), .pointer (some ⟨bk, 0, none⟩)] w
      fun e w' => e = .returned (.int .i64 r1) ∧ ChkEnv w0 w' l A c bt b bm bw bd bk r2 r3 ∧ Kept w w' (chkS bw bd) := by
  intro k
  induction k using Nat.strongRecOn with
  | _ k ih0 =>
  have IH := Aside0.mk ih0
  clear ih0
  intro at_ lv mf mcap p wg dp r1 r2 r3 w henv hent hmay h
  have hu43 := Try.underlying43
  have hu73 := Try.underlying73
  have hum := Try.underlying68
  have huk := Try.underlying5
  have HL := Aside0.mk hl
  clear hl
  cases k with
  | zero => exact absurd h (by simp [tree_Check.walk])
  | succ k =>
  have HE := Aside0.mk henv
  have MAY := Aside0.mk hmay
  have hent' : ∀ (args : Array Value) (w : World), Sem.run Try.prog (callFunc mf args) w = .ok (.enter mf args) w := hent
  clear henv hmay hent
  rw [tree_Check.walk] at h
  obtain ⟨hct, hcm, hcw, hcd, hck, hfw, hfd⟩ := HE.out.get
  by_cases c1 : at_ < (l.length : Int)
  · rw [if_pos c1] at h
    have c1b : decide ((l.length : Int) ≤ at_) = false := decide_eq_false (by omega)
    have C1 := Aside0.mk c1
    clear c1
    by_cases c0 : 0 ≤ at_
    · rw [if_pos c0] at h
      have p0 := eq_true c0
      have q0 := eq_true C1.out
      obtain ⟨ad, hA, hcz0, hcz1, hcz2, hcz3⟩ := at_T43 (Kd.C_below HE.out.row HE.out.below) at_ c0 C1.out
      cases hA
      have HH := Aside0.mk h
      clear h
      have C0 := Aside0.mk c0
      clear c0
      go_enter Try.func52, Try.ntmps52
      go_upto_region 5 with (first | ((with_reducible refine gate_dst (N := 12) rfl ?_); refine box_event ?hg (N := 12) ?hd (cs := #[.int .u8 0, .int .i64 0, .int .i64 0, .string (⟨#[]⟩ : ByteArray)]) (t := 43) ?hr ?_; (case hd => rfl); (case hg => rfl); (case hr => first | (go_simp; done) | (go_simp; rfl)); intro bx hg w1 hbox hb; have hcb0 : w1.cell? ⟨bx, 0, none⟩ = some (.int .u8 0) := (blk_cell hbox 0).trans rfl; have hcb1 : w1.cell? ⟨bx, 1, none⟩ = some (.int .i64 0) := (blk_cell hbox 1).trans rfl; have hcb2 : w1.cell? ⟨bx, 2, none⟩ = some (.int .i64 0) := (blk_cell hbox 2).trans rfl; have hcb3 : w1.cell? ⟨bx, 3, none⟩ = some (.string (⟨#[]⟩ : ByteArray)) := (blk_cell hbox 3).trans rfl; have hfb0 := blk_frozen hbox 0; have hfb1 := blk_frozen hbox 1; have hfb2 := blk_frozen hbox 2; have hfb3 := blk_frozen hbox 3; have BX := Aside0.mk hbox; have BB := Aside0.mk hb; have GX := Aside0.mk hg; clear hbox hb hg))
      obtain ⟨x, hx⟩ : ∃ x, x = rd_T43 l at_ := ⟨_, rfl⟩
      rw [← hx] at HH ⊢
      obtain ⟨w2, hw2⟩ : ∃ w2 : World, w2 = (((w1.setCell ⟨bx, 0, none⟩ (.int .u8 x.f0)).setCell ⟨bx, 1, none⟩ (.int .i64 x.f1)).setCell ⟨bx, 2, none⟩ (.int .i64 x.f2)).setCell ⟨bx, 3, none⟩ (.string x.f3) := ⟨_, rfl⟩
      have hgx : w.heap.size ≤ bx := by rw [GX.out]; exact Nat.le_refl _
      have BB2 : Below w.heap.size w w2 := by rw [hw2]; exact below_set (below_set (below_set (below_set BB.out hgx) hgx) hgx) hgx
      have BX2 : w2.heap[bx]? = some (.cells #[.int .u8 x.f0, .int .i64 x.f1, .int .i64 x.f2, .string x.f3] 43 (0, 0)) := by rw [hw2]; exact blk_set (blk_set (blk_set (blk_set BX.out 0 _) 1 _) 2 _) 3 _
      rw [← hw2]
      have HE2 := Aside0.mk (HE.out.move BB2)
      have KP := Aside0.mk (Below.chk (bw := bw) (bd := bd) BB2)
      clear hw2 hcb0 hcb1 hcb2 hcb3 hfb0 hfb1 hfb2 hfb3 BX BB w1 hcz0 hcz1 hcz2 hcz3 hct hcm hcw hcd hck hfw hfd
      have OBX := Aside0.mk (show bk < bx by rw [GX.out]; exact HE.out.lt)
      have NBX := Aside0.mk (show ¬ chkS bw bd bx by have := HE.out.ord; have := OBX.out; unfold chkS; omega)
      clear HE hx BB2 c1b
      have HE := HE2
      clear HE2
      have BX := Aside0.mk BX2
      clear BX2
      obtain ⟨hct, hcm, hcw, hcd, hck, hfw, hfd⟩ := HE.out.get
      have hcx0 : w2.cell? ⟨bx, 0, none⟩ = some (.int .u8 x.f0) := (blk_cell BX.out 0).trans rfl
      have hcx1 : w2.cell? ⟨bx, 1, none⟩ = some (.int .i64 x.f1) := (blk_cell BX.out 1).trans rfl
      have hcx2 : w2.cell? ⟨bx, 2, none⟩ = some (.int .i64 x.f2) := (blk_cell BX.out 2).trans rfl
      have hcx3 : w2.cell? ⟨bx, 3, none⟩ = some (.string x.f3) := (blk_cell BX.out 3).trans rfl
      cases hform : formOf x.f0 with
      | none =>
        have H := HH.out
        clear HH
        rw [tree_Check.bad, hform] at H
        simp only [Option.bind_some, if_true, Option.some.injEq, Prod.mk.injEq] at H
        obtain ⟨rfl, rfl, rfl⟩ := H
        have HF := Aside0.mk (form_not hform)
        clear hform
        go_upto_region 6 with (first | ((with_reducible refine gate_lookup rfl ?_); refine map_not rfl _ _ rfl hum huk rfl rfl HE.out.hb _ (form_zero _) HF.out ?_) | ((with_reducible refine gate_dst (N := 13) rfl ?_); refine box_event ?hg (N := 13) ?hd (cs := #[.nilFunc, .int .i64 0, .int .i64 0, .nilFunc]) (t := 73) ?hr ?_; (case hd => rfl); (case hg => rfl); (case hr => first | (go_simp; done) | (go_simp; rfl)); intro bf hg w1 hbox hb; have hce0 : w1.cell? ⟨bf, 0, none⟩ = some .nilFunc := (blk_cell hbox 0).trans rfl; have hce1 : w1.cell? ⟨bf, 1, none⟩ = some (.int .i64 0) := (blk_cell hbox 1).trans rfl; have hce2 : w1.cell? ⟨bf, 2, none⟩ = some (.int .i64 0) := (blk_cell hbox 2).trans rfl; have hce3 : w1.cell? ⟨bf, 3, none⟩ = some .nilFunc := (blk_cell hbox 3).trans rfl; have hfe0 := blk_frozen hbox 0; have hfe1 := blk_frozen hbox 1; have hfe2 := blk_frozen hbox 2; have hfe3 := blk_frozen hbox 3; have BF := Aside0.mk hbox; have BB := Aside0.mk hb; have GF := Aside0.mk hg; clear hbox hb hg))
        obtain ⟨w3, hw3⟩ : ∃ w3 : World, w3 = (((w1.setCell ⟨bf, 0, none⟩ (.nilFunc)).setCell ⟨bf, 1, none⟩ (.int .i64 0)).setCell ⟨bf, 2, none⟩ (.int .i64 0)).setCell ⟨bf, 3, none⟩ (.nilFunc) := ⟨_, rfl⟩
        have hgf : w2.heap.size ≤ bf := by rw [GF.out]; exact Nat.le_refl _
        have BB3 : Below w2.heap.size w2 w3 := by rw [hw3]; exact below_set (below_set (below_set (below_set BB.out hgf) hgf) hgf) hgf
        have BF3 : w3.heap[bf]? = some (.cells #[.nilFunc, .int .i64 0, .int .i64 0, .nilFunc] 73 (0, 0)) := by rw [hw3]; exact blk_set (blk_set (blk_set (blk_set BF.out 0 _) 1 _) 2 _) 3 _
        rw [← hw3]
        have HE3 := Aside0.mk (HE.out.move BB3)
        have KP3 := Aside0.mk (KP.out.below BB3)
        have BX3 := Aside0.mk (blk_below BX.out BB3)
        have OBF := Aside0.mk (show bx < bf by rw [GF.out]; exact blk_lt BX.out)
        have NBF := Aside0.mk (show ¬ chkS bw bd bf by have := HE.out.ord; have := OBX.out; have := OBF.out; unfold chkS; omega)
        clear hw3 hce0 hce1 hce2 hce3 hfe0 hfe1 hfe2 hfe3 BF BB w1 hcx0 hcx1 hcx2 hcx3 hct hcm hcw hcd hck hfw hfd HE KP BX hgf BB3 GF
        have HE := HE3
        have KP := KP3
        have BX := BX3
        have BF := Aside0.mk BF3
        clear HE3 KP3 BX3 BF3
        obtain ⟨hct, hcm, hcw, hcd, hck, hfw, hfd⟩ := HE.out.get
        have hcx0 : w3.cell? ⟨bx, 0, none⟩ = some (.int .u8 x.f0) := (blk_cell BX.out 0).trans rfl
        have hcx1 : w3.cell? ⟨bx, 1, none⟩ = some (.int .i64 x.f1) := (blk_cell BX.out 1).trans rfl
        have hcx2 : w3.cell? ⟨bx, 2, none⟩ = some (.int .i64 x.f2) := (blk_cell BX.out 2).trans rfl
        have hcx3 : w3.cell? ⟨bx, 3, none⟩ = some (.string x.f3) := (blk_cell BX.out 3).trans rfl
        go_wp2
        go_ret
        exact ⟨rfl, HE.out.setw _, KP.out.setCell (.inl (.inl rfl)) _⟩
      | some f =>
        obtain ⟨fj, hfind⟩ := form_has hform
        have HF := Aside0.mk hfind
        clear hfind
        have HFORM := Aside0.mk hform
        have H := HH.out
        clear HH
        rw [tree_Check.bad, hform] at H
        clear hform
        have HH := Aside0.mk H
        clear H
        go_upto_region 6 with (first | ((with_reducible refine gate_lookup rfl ?_); refine map_has rfl _ _ rfl hum huk rfl rfl HE.out.hb fj (.agg #[.func (.func f.tx) #[] #[], .int .i64 f.le, .int .i64 f.mo, .func (.func f.pt) #[] #[]]) HF.out ?_) | ((with_reducible refine gate_dst (N := 13) rfl ?_); refine box_event ?hg (N := 13) ?hd (cs := #[.nilFunc, .int .i64 0, .int .i64 0, .nilFunc]) (t := 73) ?hr ?_; (case hd => rfl); (case hg => rfl); (case hr => first | (go_simp; done) | (go_simp; rfl)); intro bf hg w1 hbox hb; have hce0 : w1.cell? ⟨bf, 0, none⟩ = some .nilFunc := (blk_cell hbox 0).trans rfl; have hce1 : w1.cell? ⟨bf, 1, none⟩ = some (.int .i64 0) := (blk_cell hbox 1).trans rfl; have hce2 : w1.cell? ⟨bf, 2, none⟩ = some (.int .i64 0) := (blk_cell hbox 2).trans rfl; have hce3 : w1.cell? ⟨bf, 3, none⟩ = some .nilFunc := (blk_cell hbox 3).trans rfl; have hfe0 := blk_frozen hbox 0; have hfe1 := blk_frozen hbox 1; have hfe2 := blk_frozen hbox 2; have hfe3 := blk_frozen hbox 3; have BF := Aside0.mk hbox; have BB := Aside0.mk hb; have GF := Aside0.mk hg; clear hbox hb hg))
        obtain ⟨w3, hw3⟩ : ∃ w3 : World, w3 = (((w1.setCell ⟨bf, 0, none⟩ (.func (.func f.tx) #[] #[])).setCell ⟨bf, 1, none⟩ (.int .i64 f.le)).setCell ⟨bf, 2, none⟩ (.int .i64 f.mo)).setCell ⟨bf, 3, none⟩ (.func (.func f.pt) #[] #[]) := ⟨_, rfl⟩
        have hgf : w2.heap.size ≤ bf := by rw [GF.out]; exact Nat.le_refl _
        have BB3 : Below w2.heap.size w2 w3 := by rw [hw3]; exact below_set (below_set (below_set (below_set BB.out hgf) hgf) hgf) hgf
        have BF3 : w3.heap[bf]? = some (.cells #[.func (.func f.tx) #[] #[], .int .i64 f.le, .int .i64 f.mo, .func (.func f.pt) #[] #[]] 73 (0, 0)) := by rw [hw3]; exact blk_set (blk_set (blk_set (blk_set BF.out 0 _) 1 _) 2 _) 3 _
        rw [← hw3]
        have HE3 := Aside0.mk (HE.out.move BB3)
        have KP3 := Aside0.mk (KP.out.below BB3)
        have BX3 := Aside0.mk (blk_below BX.out BB3)
        have OBF := Aside0.mk (show bx < bf by rw [GF.out]; exact blk_lt BX.out)
        have NBF := Aside0.mk (show ¬ chkS bw bd bf by have := HE.out.ord; have := OBX.out; have := OBF.out; unfold chkS; omega)
        clear hw3 hce0 hce1 hce2 hce3 hfe0 hfe1 hfe2 hfe3 BF BB w1 hcx0 hcx1 hcx2 hcx3 hct hcm hcw hcd hck hfw hfd HE KP BX hgf BB3 GF
        have HE := HE3
        have KP := KP3
        have BX := BX3
        have BF := Aside0.mk BF3
        clear HE3 KP3 BX3 BF3
        obtain ⟨hct, hcm, hcw, hcd, hck, hfw, hfd⟩ := HE.out.get
        have hcx0 : w3.cell? ⟨bx, 0, none⟩ = some (.int .u8 x.f0) := (blk_cell BX.out 0).trans rfl
        have hcx1 : w3.cell? ⟨bx, 1, none⟩ = some (.int .i64 x.f1) := (blk_cell BX.out 1).trans rfl
        have hcx2 : w3.cell? ⟨bx, 2, none⟩ = some (.int .i64 x.f2) := (blk_cell BX.out 2).trans rfl
        have hcx3 : w3.cell? ⟨bx, 3, none⟩ = some (.string x.f3) := (blk_cell BX.out 3).trans rfl
        have hcf0 : w3.cell? ⟨bf, 0, none⟩ = some (.func (.func f.tx) #[] #[]) := (blk_cell BF.out 0).trans rfl
        have hcf1 : w3.cell? ⟨bf, 1, none⟩ = some (.int .i64 f.le) := (blk_cell BF.out 1).trans rfl
        have hcf2 : w3.cell? ⟨bf, 2, none⟩ = some (.int .i64 f.mo) := (blk_cell BF.out 2).trans rfl
        have H := HH.out
        clear HH
        dsimp only at H
        obtain ⟨bv, H1, H⟩ := Option.bind_eq_some_iff.mp H
        have HB1 := Aside0.mk H1
        have HH := Aside0.mk H
        clear H H1
        go_cut [80] (fun v80 wc => v80 = .bool bv ∧ ∃ n, wc = w3.drewN n)
        case first =>
          have H1 := HB1.out
          clear HB1 HH
          by_cases hp : p x.f0 = true
          · rw [if_pos hp] at H1
            obtain ⟨t, HT, H1⟩ := Option.bind_eq_some_iff.mp H1
            have hentT : ∀ (args : Array Value) (w : World), Sem.run Try.prog (callFunc f.tx args) w = .ok (.enter f.tx args) w := text_enters HT
            have HT := Aside0.mk HT
            cases t with
            | false =>
              simp only [Bool.false_eq_true, if_false, Option.some.injEq] at H1
              obtain rfl := H1
              go_wp2_with (first | ((with_reducible refine (text_calls _ HT.out).mono ?_); rintro e w' ⟨rfl, ⟨nd2, rfl⟩⟩) | ((with_reducible refine (may_at MAY.out ?kp _).mono ?_); (case kp => exact KP.out); rintro e w' ⟨rfl, ⟨nd, rfl⟩⟩))
              go_meet
              case rel => exact ⟨by first | rfl | (simp; done) | (simp [*]; done), ⟨_, by first | rfl | exact (World.drewN_drewN _ _ _)⟩⟩
            | true =>
              rw [if_pos rfl] at H1
              by_cases cA : x.f1 < f.le
              · rw [if_pos cA] at H1
                obtain rfl := Option.some.inj H1
                clear H1
                have cAb : decide (x.f1 < f.le) = true := decide_eq_true cA
                clear cA
                go_wp2_with (first | ((with_reducible refine (text_calls _ HT.out).mono ?_); rintro e w' ⟨rfl, ⟨nd2, rfl⟩⟩) | ((with_reducible refine (may_at MAY.out ?kp _).mono ?_); (case kp => exact KP.out); rintro e w' ⟨rfl, ⟨nd, rfl⟩⟩))
                go_meet
                case rel => exact ⟨by first | rfl | (simp; done) | (simp [*]; done), ⟨_, by first | rfl | exact (World.drewN_drewN _ _ _)⟩⟩
              rw [if_neg cA] at H1
              have cAb : decide (x.f1 < f.le) = false := decide_eq_false cA
              clear cA
              by_cases cB : x.f1 > f.mo
              · rw [if_pos cB] at H1
                obtain rfl := Option.some.inj H1
                clear H1
                have cBb : decide (f.mo < x.f1) = true := decide_eq_true cB
                clear cB
                go_wp2_with (first | ((with_reducible refine (text_calls _ HT.out).mono ?_); rintro e w' ⟨rfl, ⟨nd2, rfl⟩⟩) | ((with_reducible refine (may_at MAY.out ?kp _).mono ?_); (case kp => exact KP.out); rintro e w' ⟨rfl, ⟨nd, rfl⟩⟩))
                go_meet
                case rel => exact ⟨by first | rfl | (simp; done) | (simp [*]; done), ⟨_, by first | rfl | exact (World.drewN_drewN _ _ _)⟩⟩
              rw [if_neg cB] at H1
              have cBb : decide (f.mo < x.f1) = false := decide_eq_false cB
              clear cB
              by_cases cC : x.f0 = 23
              · rw [if_pos cC] at H1
                have cCb : (x.f0 != 23) = false := bne_eq_false_iff_eq.mpr cC
                have cCc : (x.f0 == 23) = true := beq_iff_eq.mpr cC
                clear cC
                obtain rfl := Option.some.inj H1
                clear H1
                go_wp2_with (first | ((with_reducible refine (text_calls _ HT.out).mono ?_); rintro e w' ⟨rfl, ⟨nd2, rfl⟩⟩) | ((with_reducible refine (may_at MAY.out ?kp _).mono ?_); (case kp => exact KP.out); rintro e w' ⟨rfl, ⟨nd, rfl⟩⟩))
                go_meet
                case rel => exact ⟨by first | rfl | (simp; done) | (simp [*]; done), ⟨_, by first | rfl | exact (World.drewN_drewN _ _ _)⟩⟩
              · rw [if_neg cC] at H1
                have cCb : (x.f0 != 23) = true := bne_iff_ne.mpr cC
                have cCc : (x.f0 == 23) = false := beq_eq_false_iff_ne.mpr cC
                clear cC
                by_cases cD : x.f2 = 0
                · rw [if_pos cD] at H1
                  obtain rfl := Option.some.inj H1
                  clear H1
                  have cDb : (x.f2 != 0) = false := bne_eq_false_iff_eq.mpr cD
                  have cDc : (x.f2 == 0) = true := beq_iff_eq.mpr cD
                  have cDd : decide (x.f2 < 0) = false := decide_eq_false (by omega)
                  clear cD
                  go_wp2_with (first | ((with_reducible refine (text_calls _ HT.out).mono ?_); rintro e w' ⟨rfl, ⟨nd2, rfl⟩⟩) | ((with_reducible refine (may_at MAY.out ?kp _).mono ?_); (case kp => exact KP.out); rintro e w' ⟨rfl, ⟨nd, rfl⟩⟩))
                  go_meet
                  case rel => exact ⟨by first | rfl | (simp; done) | (simp [*]; done), ⟨_, by first | rfl | exact (World.drewN_drewN _ _ _)⟩⟩
                · rw [if_neg cD] at H1
                  obtain rfl := Option.some.inj H1
                  clear H1
                  have cDb : (x.f2 != 0) = true := bne_iff_ne.mpr cD
                  have cDc : (x.f2 == 0) = false := beq_eq_false_iff_ne.mpr cD
                  clear cD
                  go_wp2_with (first | ((with_reducible refine (text_calls _ HT.out).mono ?_); rintro e w' ⟨rfl, ⟨nd2, rfl⟩⟩) | ((with_reducible refine (may_at MAY.out ?kp _).mono ?_); (case kp => exact KP.out); rintro e w' ⟨rfl, ⟨nd, rfl⟩⟩))
                  go_meet
                  case rel => exact ⟨by first | rfl | (simp; done) | (simp [*]; done), ⟨_, by first | rfl | exact (World.drewN_drewN _ _ _)⟩⟩
          · rw [if_neg hp] at H1
            have hp2 : p x.f0 = false := Bool.eq_false_iff.mpr hp
            clear hp
            obtain rfl := Option.some.inj H1
            clear H1
            go_wp2_with (first | ((with_reducible refine (text_calls _ HT.out).mono ?_); rintro e w' ⟨rfl, ⟨nd2, rfl⟩⟩) | ((with_reducible refine (may_at MAY.out ?kp _).mono ?_); (case kp => exact KP.out); rintro e w' ⟨rfl, ⟨nd, rfl⟩⟩))
            go_meet
            case rel => exact ⟨by first | rfl | (simp; done) | (simp [*]; done), ⟨_, by first | rfl | exact (World.drewN_drewN _ _ _)⟩⟩
        case rest =>
          obtain ⟨rfl, n, rfl⟩ := hcut
          have H := HH.out
          clear HH HB1
          cases bv with
          | true =>
            simp only [if_true, Option.some.injEq, Prod.mk.injEq] at H
            obtain ⟨rfl, rfl, rfl⟩ := H
            go_wp2
            go_ret
            exact ⟨rfl, (HE.out.move (pw_below_drewN (Below.refl _ _) n)).setw _, (KP.out.drewN n).setCell (.inl (.inl rfl)) _⟩
          | false =>
            simp only [Bool.false_eq_true, if_false] at H
            obtain ⟨w4, hw4⟩ : ∃ w4 : World, w4 = w3.drewN n := ⟨_, rfl⟩
            have BB4 : Below w3.heap.size w3 w4 := by rw [hw4]; exact pw_below_drewN (Below.refl _ _) n
            rw [← hw4]
            have HE4 := Aside0.mk (HE.out.move BB4)
            have KP4 := Aside0.mk (KP.out.below BB4)
            have BX4 := Aside0.mk (blk_below BX.out BB4)
            have BF4 := Aside0.mk (blk_below BF.out BB4)
            clear hw4 BB4 HE KP BX BF hcf0 hcf1 hcf2 hcx0 hcx1 hcx2 hcx3 hct hcm hcw hcd hck hfw hfd
            obtain ⟨hct, hcm, hcw, hcd, hck, hfw, hfd⟩ := HE4.out.get
            have HH := Aside0.mk H
            clear H
            go_upto_region 9 with (fail)
            go_cut [88] (fun v88 wc => v88 = .bool (decide (40 < lv) && decide (dp < 0)) ∧ w4 = wc)
            case first =>
              by_cases cL : 40 < lv
              · have cLb : decide (40 < lv) = true := decide_eq_true cL
                clear cL
                by_cases cD : dp < 0
                · have cDb : decide (dp < 0) = true := decide_eq_true cD
                  clear cD
                  go_wp2
                  go_meet
                  case rel => exact ⟨by first | rfl | (simp; done) | (simp [*]; done), rfl⟩
                · have cDb : decide (dp < 0) = false := decide_eq_false cD
                  clear cD
                  go_wp2
                  go_meet
                  case rel => exact ⟨by first | rfl | (simp; done) | (simp [*]; done), rfl⟩
              · have cLb : decide (40 < lv) = false := decide_eq_false cL
                clear cL
                go_wp2
                go_meet
                case rel => exact ⟨by first | rfl | (simp; done) | (simp [*]; done), rfl⟩
            case rest =>
            obtain ⟨rfl, rfl⟩ := hcut
            obtain ⟨dq, hdq⟩ : ∃ dq : Int, dq = if lv > 40 then if dp < 0 then at_ else dp else dp := ⟨_, rfl⟩
            rw [← hdq] at HH
            have hbl : dq = if (decide (40 < lv) && decide (dp < 0)) = true then at_ else dp := by
              rw [hdq]
              by_cases cL : 40 < lv <;> by_cases cD : dp < 0 <;> simp [cL, cD]
            clear hdq
            revert hbl
            generalize (decide (40 < lv) && decide (dp < 0)) = bl
            intro hbl
            have HBL := Aside0.mk hbl
            clear hbl
            go_upto_if 88 with (fail)
            go_cut [] (fun wc => ChkEnv w0 wc l (some ad) c bt b bm bw bd bk wg dq ∧ Kept w4 wc (chkS bw bd))
            case first =>
              cases bl with
              | true =>
                have hq := HBL.out
                rw [if_pos rfl] at hq
                subst hq
                go_wp2
                go_meet
                case rel => exact ⟨HE4.out.setd _, (Kept.refl _ _).setCell (.inl (.inr rfl)) _⟩
              | false =>
                have hq := HBL.out
                rw [if_neg Bool.false_ne_true] at hq
                subst hq
                go_wp2
                go_meet
                case rel => exact ⟨HE4.out, Kept.refl _ _⟩
            case rest =>
            have HE := Aside0.mk hcut.1
            have HK := Aside0.mk hcut.2
            clear hcut
            have KP := Aside0.mk (KP4.out.then_ HK.out (fun _ h => .inl h))
            have BX := Aside0.mk (blk_kept BX4.out HK.out NBX.out)
            have BF := Aside0.mk (blk_kept BF4.out HK.out NBF.out)
            clear HE4 KP4 BX4 BF4 HK hct hcm hcw hcd hck hfw hfd HBL
            obtain ⟨hct, hcm, hcw, hcd, hck, hfw, hfd⟩ := HE.out.get
            go_upto_region 12 with (fail)
            have X1 : Aside0 True := ⟨trivial⟩
            go_upto_block 0 with ((with_reducible refine gate_dst (N := 16) rfl ?_); refine box_event ?hg (N := 16) ?hd (cs := #[.int .i64 0]) (t := 3) ?hr ?_; (case hd => rfl); (case hg => rfl); (case hr => first | (go_simp; done) | (go_simp; rfl)); intro bi hg w1 hbox hb; have hce0 : w1.cell? ⟨bi, 0, none⟩ = some (.int .i64 0) := (blk_cell hbox 0).trans rfl; have hfe0 := blk_frozen hbox 0; have BI := Aside0.mk hbox; have BB := Aside0.mk hb; have GI := Aside0.mk hg; clear hbox hb hg)
            obtain ⟨w5, hw5⟩ : ∃ w5 : World, w5 = w1.setCell ⟨bi, 0, none⟩ (.int .i64 0) := ⟨_, rfl⟩
            rw [← hw5]
            have hgi : wc.heap.size ≤ bi := by rw [GI.out]; exact Nat.le_refl _
            have BB5 : Below wc.heap.size wc w5 := by rw [hw5]; exact below_set BB.out hgi
            have BI5 : w5.heap[bi]? = some (.cells #[.int .i64 0] 3 (0, 0)) := by rw [hw5]; exact blk_set BI.out 0 _
            have HE5 := Aside0.mk (HE.out.move BB5)
            have KP5 := Aside0.mk (KP.out.below BB5)
            have BX5 := Aside0.mk (blk_below BX.out BB5)
            have BF5 := Aside0.mk (blk_below BF.out BB5)
            have OBI := Aside0.mk (show bf < bi by have := blk_lt BF.out; omega)
            have LBI := Aside0.mk (show w.heap.size ≤ bi by have := KP.out.1; omega)
            have BI6 := Aside0.mk BI5
            clear hw5 hce0 hfe0 BI BB w1 HE KP BX BF hgi BB5 BI5 GI hct hcm hcw hcd hck hfw hfd X1
            go_wp2
            go_loopg [15, 16] k (fun kq v15 v16 wq => ∃ (nx i wg' dp' : Int) (bi : Nat), v15 = .int .i64 nx ∧ v16 = .pointer (some ⟨bi, 0, none⟩) ∧ Aside0 (tree_Check.kids l kq x nx lv i wg' dp' = some (r1, r2, r3)) ∧ Aside0 (kq ≤ k) ∧ Aside0 (ChkEnv w0 wq l (some ad) c bt b bm bw bd bk wg' dp') ∧ Aside0 (Kept w wq (chkS bw bd)) ∧ Aside0 (wq.heap[bi]? = some (.cells #[.int .i64 i] 3 (0, 0))) ∧ Aside0 (bf < bi) ∧ Aside0 (w.heap.size ≤ bi) ∧ Aside0 (wq.heap[bx]? = some (.cells #[.int .u8 x.f0, .int .i64 x.f1, .int .i64 x.f2, .string x.f3] 43 (0, 0))) ∧ Aside0 (wq.heap[bf]? = some (.cells #[.func (.func f.tx) #[] #[], .int .i64 f.le, .int .i64 f.mo, .func (.func f.pt) #[] #[]] 73 (0, 0))))
            case atStart => exact ⟨_, _, _, _, bi, rfl, rfl, HH, ⟨Nat.le_refl _⟩, HE5, KP5, BI6, OBI, LBI, BX5, BF5⟩
            case round =>
              clear HH HE5 KP5 BI6 OBI LBI BX5 BF5
              clear bi w5
              obtain ⟨nx, i, wg', dp', bi, rfl, rfl, HH, HKQ, HE, KP, BI, OBI, LBI, BX, BF⟩ := hrel
              cases gk with
              | zero => exact absurd HH.out (by simp [tree_Check.kids])
              | succ kq =>
                have H := HH.out
                clear HH
                rw [tree_Check.kids] at H
                obtain ⟨hct, hcm, hcw, hcd, hck, hfw, hfd⟩ := HE.out.get
                have hcx1 : wr.cell? ⟨bx, 1, none⟩ = some (.int .i64 x.f1) := (blk_cell BX.out 1).trans rfl
                have hci : wr.cell? ⟨bi, 0, none⟩ = some (.int .i64 i) := (blk_cell BI.out 0).trans rfl
                by_cases ci : i < x.f1
                · rw [if_pos ci] at H
                  have cib : decide (i < x.f1) = true := decide_eq_true ci
                  clear ci
                  by_cases cw : wg' < 0
                  · rw [if_pos cw] at H
                    have cwb : decide (wg' < 0) = true := decide_eq_true cw
                    clear cw
                    obtain ⟨⟨q1, q2, q3⟩, HW, H⟩ := Option.bind_eq_some_iff.mp H
                    have NBI := Aside0.mk (show ¬ chkS bw bd bi by have := HE.out.ord; have := OBX.out; have := OBF.out; have := OBI.out; unfold chkS; omega)
                    have CALL := Aside0.mk (IH.out kq (by have := HKQ.out; omega) _ _ _ _ _ _ _ _ _ _ wr HE.out enters_one (may_one HFORM.out BF.out BI.out BX.out NBF.out NBI.out NBX.out) HW)
                    have HH := Aside0.mk H
                    clear H HW
                    have hent2 : ∀ (args : Array Value) (w : World), Sem.run Try.prog (callFunc 52 args) w = .ok (.enter 52 args) w := enters_walk
                    go_upto_region 16 with ((with_reducible refine CALL.out.mono ?_); rintro e wn ⟨rfl, HE2, KP2⟩; have HE3 := Aside0.mk HE2; have KP3 := Aside0.mk KP2; have hcj : wn.cell? ⟨bi, 0, none⟩ = some (.int .i64 i) := (blk_cell (blk_kept BI.out KP2 NBI.out) 0).trans rfl; clear HE2 KP2)
                    have BX3 := Aside0.mk (blk_kept BX.out KP3.out NBX.out)
                    have BF3 := Aside0.mk (blk_kept BF.out KP3.out NBF.out)
                    have KPN := Aside0.mk (KP.out.then_ KP3.out (fun _ h => .inl h))
                    clear hct hcm hcw hcd hck hfw hfd hcx1 hci cib cwb hent2 CALL BX BF HE KP BI
                    go_wp2_with ((with_reducible refine gate_dst (N := 16) rfl ?_); refine box_event ?hg (N := 16) ?hd (cs := #[.int .i64 0]) (t := 3) ?hr ?_; (case hd => rfl); (case hg => rfl); (case hr => first | (go_simp; done) | (go_simp; rfl)); intro bj hg w1 hbox hb; have hce0 : w1.cell? ⟨bj, 0, none⟩ = some (.int .i64 0) := (blk_cell hbox 0).trans rfl; have hfe0 := blk_frozen hbox 0; have BJ := Aside0.mk hbox; have BB := Aside0.mk hb; have GJ := Aside0.mk hg; clear hbox hb hg)
                    obtain ⟨w5, hw5⟩ : ∃ w5 : World, w5 = (w1.setCell ⟨bj, 0, none⟩ (.int .i64 i)).setCell ⟨bj, 0, none⟩ (.int .i64 (wrap64 (i + 1))) := ⟨_, rfl⟩
                    have hgi : wn.heap.size ≤ bj := by rw [GJ.out]; exact Nat.le_refl _
                    have BB5 : Below wn.heap.size wn w5 := by rw [hw5]; exact below_set (below_set BB.out hgi) hgi
                    have BI5 : w5.heap[bj]? = some (.cells #[.int .i64 (wrap64 (i + 1))] 3 (0, 0)) := by rw [hw5]; exact blk_set (blk_set BJ.out 0 _) 0 _
                    first | rw [← hw5] | skip
                    go_roundg kq
                    case measure => omega
                    case rel => exact ⟨_, _, _, _, bj, rfl, rfl, HH, ⟨by have := HKQ.out; omega⟩, ⟨HE3.out.move BB5⟩, ⟨KPN.out.below BB5⟩, ⟨BI5⟩, ⟨by have := blk_lt BF3.out; omega⟩, ⟨by have := KPN.out.1; omega⟩, ⟨blk_below BX3.out BB5⟩, ⟨blk_below BF3.out BB5⟩⟩
                  · rw [if_neg cw] at H
                    have cwb : decide (wg' < 0) = false := decide_eq_false cw
                    clear cw
                    simp only [Option.some.injEq, Prod.mk.injEq] at H
                    obtain ⟨rfl, rfl, rfl⟩ := H
                    go_wp2
                    go_ret
                    exact ⟨rfl, HE.out, KP.out⟩
                · rw [if_neg ci] at H
                  have cib : decide (i < x.f1) = false := decide_eq_false ci
                  clear ci
                  simp only [Option.some.injEq, Prod.mk.injEq] at H
                  obtain ⟨rfl, rfl, rfl⟩ := H
                  go_wp2
                  go_ret
                  exact ⟨rfl, HE.out, KP.out⟩
    · rw [if_neg c0] at h
      cases h
  · rw [if_neg c1] at h
    have c1b : decide ((l.length : Int) ≤ at_) = true := decide_eq_true (by omega)
    clear c1
    simp only [Option.some.injEq, Prod.mk.injEq] at h
    obtain ⟨rfl, rfl, rfl⟩ := h
    go_enter Try.func52, Try.ntmps52
    go_wp2
    go_ret
    exact ⟨rfl, HE.out.setw _, (Kept.refl _ _).setCell (.inl (.inl rfl)) _⟩
set_option maxHeartbeats 8000000 in
set_option maxRecDepth 100000 in
theorem tree_Check.calls (k : Nat) (A0 : Option Addr) (c0 : Nat) (l0 : List S43) (r1 r2 : Int) (w : World) (hr0 : Kd.C k43 w A0 l0.length l0) (hc0 : l0.length ≤ c0) (h : tree_Check.f k l0 = some (r1, r2)) :
    Calls Try.prog 32 #[.slice A0 l0.length c0] w fun e w' => e = .returned (.tuple #[.int .i64 r1, .int .i64 r2]) ∧ Below w.heap.size w w' := by
  unfold tree_Check.f at h
  have HR := Aside0.mk hr0
  have HC := Aside0.mk hc0
  clear hr0 hc0
  have hu36 := Try.underlying36
  by_cases cl : (l0.length : Int) > 2048
  · rw [if_pos cl] at h
    have clb : decide (2048 < (l0.length : Int)) = true := decide_eq_true cl
    clear cl
    simp only [Option.some.injEq, Prod.mk.injEq] at h
    obtain ⟨rfl, rfl⟩ := h
    go_enter Try.func32, Try.ntmps32
    go_wp2_with ((with_reducible refine gate_dst (N := 1) rfl ?_); refine box_event ?hg (N := 1) ?hd (cs := #[.slice A0 l0.length c0]) (t := 36) ?hr ?_; (case hd => rfl); (case hg => rfl); (case hr => first | (go_simp; done) | (go_simp; rfl)); intro bt hg1 w1 hbox1 hb1; have hc1 : w1.cell? ⟨bt, 0, none⟩ = some (.slice A0 l0.length c0) := (blk_cell hbox1 0).trans rfl; have hf1 := blk_frozen hbox1 0; have BO1 := Aside0.mk hbox1; have BB1 := Aside0.mk hb1; have GG1 := Aside0.mk hg1; clear hbox1 hb1 hg1)
    go_ret2
    exact ⟨rfl, BB1.out⟩
  rw [if_neg cl] at h
  have HL := Aside0.mk (show l0.length ≤ 2048 by omega)
  have clb : decide (2048 < (l0.length : Int)) = false := decide_eq_false cl
  clear cl
  obtain ⟨⟨q1, q2, q3⟩, HW, H⟩ := Option.bind_eq_some_iff.mp h
  have HWA := Aside0.mk HW
  have HH := Aside0.mk H
  clear h HW H
  go_enter Try.func32, Try.ntmps32
  go_upto_region 3 with ((with_reducible refine gate_dst (N := 1) rfl ?_); refine box_event ?hg (N := 1) ?hd (cs := #[.slice A0 l0.length c0]) (t := 36) ?hr ?_; (case hd => rfl); (case hg => rfl); (case hr => first | (go_simp; done) | (go_simp; rfl)); intro bt hg1 w1 hbox1 hb1; have hc1 : w1.cell? ⟨bt, 0, none⟩ = some (.slice A0 l0.length c0) := (blk_cell hbox1 0).trans rfl; have hf1 := blk_frozen hbox1 0; have BO1 := Aside0.mk hbox1; have BB1 := Aside0.mk hb1; have GG1 := Aside0.mk hg1; clear hbox1 hb1 hg1)
  go_upto_region 4 with (first | ((with_reducible refine (tree_forms.calls _).mono ?_); rintro e wf ⟨b, rfl, hfb, hbl, hgb⟩; have FB := Aside0.mk hfb; have FL := Aside0.mk hbl; have FG := Aside0.mk hgb; clear hfb hbl hgb) | ((with_reducible refine gate_dst (N := 4) rfl ?_); refine box_event ?hg (N := 4) ?hd (cs := #[.map none]) (t := 68) ?hr ?_; (case hd => rfl); (case hg => rfl); (case hr => first | (go_simp; done) | (go_simp; rfl)); intro bm hg4 w2 hbox4 hb4; have hc4 : w2.cell? ⟨bm, 0, none⟩ = some (.map none) := (blk_cell hbox4 0).trans rfl; have hf4 := blk_frozen hbox4 0; have BO4 := Aside0.mk hbox4; have BB4 := Aside0.mk hb4; have GG4 := Aside0.mk hg4; clear hbox4 hb4 hg4))
  obtain ⟨w3, hw3⟩ : ∃ w3 : World, w3 = w2.setCell ⟨bm, 0, none⟩ (.map (some b)) := ⟨_, rfl⟩
  rw [← hw3]
  have O1 := Aside0.mk (show bt < b by have := FG.out; have := blk_lt BO1.out; omega)
  have O2 := Aside0.mk (show b < bm by rw [GG4.out]; exact blk_lt FB.out)
  have L3 : Below wf.heap.size wf w3 := by rw [hw3]; exact below_set BB4.out (Nat.le_of_eq GG4.out.symm)
  have T3 := Aside0.mk (blk_below (blk_below BO1.out FL.out) L3)
  have F3 := Aside0.mk (blk_below FB.out L3)
  have M3 : Aside0 (w3.heap[bm]? = some (.cells #[.map (some b)] 68 (0, 0))) := ⟨by rw [hw3]; exact blk_set BO4.out 0 _⟩
  have B3 := Aside0.mk (below_then (below_then BB1.out BB1.out.size FL.out) (below_then BB1.out BB1.out.size FL.out).size L3)
  clear hw3 hc1 hf1 BO1 BB1 hc4 hf4 BO4 BB4 GG4 FB FL FG L3
  go_upto_region 5 with (first | ((with_reducible refine gate_dst (N := 5) rfl ?_); refine box_event ?hg (N := 5) ?hd (cs := #[.int .i64 0]) (t := 3) ?hr ?_; (case hd => rfl); (case hg => rfl); (case hr => first | (go_simp; done) | (go_simp; rfl)); intro bw hg5 w4 hbox5 hb5; have hc5 : w4.cell? ⟨bw, 0, none⟩ = some (.int .i64 0) := (blk_cell hbox5 0).trans rfl; have hf5 := blk_frozen hbox5 0; have BO5 := Aside0.mk hbox5; have BB5 := Aside0.mk hb5; have GG5 := Aside0.mk hg5; clear hbox5 hb5 hg5) | ((with_reducible refine gate_dst (N := 6) rfl ?_); refine box_event ?hg (N := 6) ?hd (cs := #[.int .i64 0]) (t := 3) ?hr ?_; (case hd => rfl); (case hg => rfl); (case hr => first | (go_simp; done) | (go_simp; rfl)); intro bd hg6 w5 hbox6 hb6; have hc6 : w5.cell? ⟨bd, 0, none⟩ = some (.int .i64 0) := (blk_cell hbox6 0).trans rfl; have hf6 := blk_frozen hbox6 0; have BO6 := Aside0.mk hbox6; have BB6 := Aside0.mk hb6; have GG6 := Aside0.mk hg6; have hc5b : w5.cell? ⟨bw, 0, none⟩ = some (.int .i64 0) := (blk_cell (blk_below BO5.out hb6) 0).trans rfl; have hf5b := blk_frozen (blk_below BO5.out hb6) 0; have hn6 : bd ≠ bw := Nat.ne_of_gt (Nat.lt_of_lt_of_eq (blk_lt BO5.out) hg6.symm); obtain ⟨hc6b, hf6b⟩ := far_get hbox6 hn6; clear hn6; clear hbox6 hb6 hg6))
  obtain ⟨w6, hw6⟩ : ∃ w6 : World, w6 = (w5.setCell ⟨bw, 0, none⟩ (.int .i64 (-1))).setCell ⟨bd, 0, none⟩ (.int .i64 (-1)) := ⟨_, rfl⟩
  rw [← hw6]
  have O3 := Aside0.mk (show bm < bw by rw [GG5.out]; exact blk_lt M3.out)
  have O4 := Aside0.mk (show bw < bd by rw [GG6.out]; exact blk_lt BO5.out)
  have L6 : Below w3.heap.size w3 w6 := by
    have a : w3.heap.size ≤ bw := Nat.le_of_eq GG5.out.symm
    have c : w3.heap.size ≤ bd := by have := O4.out; omega
    rw [hw6]
    exact below_set (below_set (below_step BB5.out BB6.out) a) c
  have T6 := Aside0.mk (blk_below T3.out L6)
  have F6 := Aside0.mk (blk_below F3.out L6)
  have M6 := Aside0.mk (blk_below M3.out L6)
  have W6 : Aside0 (w6.heap[bw]? = some (.cells #[.int .i64 (-1)] 3 (0, 0))) := ⟨by rw [hw6]; exact obj_far (blk_set (blk_below BO5.out BB6.out) 0 _) (by show bw ≠ bd; have := O4.out; omega)⟩
  have D6 : Aside0 (w6.heap[bd]? = some (.cells #[.int .i64 (-1)] 3 (0, 0))) := ⟨by rw [hw6]; exact blk_set (obj_far BO6.out (by show bd ≠ bw; have := O4.out; omega)) 0 _⟩
  have B6 := Aside0.mk (below_then B3.out B3.out.size L6)
  clear hw6 hc5 hf5 hc5b hf5b hc6b hf6b BO5 BB5 hc6 hf6 BO6 BB6 GG5 GG6 L6 T3 F3 M3 B3
  go_upto_region 7 with ((with_reducible refine gate_dst (N := 7) rfl ?_); refine box_event ?hg (N := 7) ?hd (cs := #[.nilFunc]) (t := 70) ?hr ?_; (case hd => rfl); (case hg => rfl); (case hr => first | (go_simp; done) | (go_simp; rfl)); intro bk hg7 w7 hbox7 hb7; have hc7 : w7.cell? ⟨bk, 0, none⟩ = some .nilFunc := (blk_cell hbox7 0).trans rfl; have hf7 := blk_frozen hbox7 0; have BO7 := Aside0.mk hbox7; have BB7 := Aside0.mk hb7; have GG7 := Aside0.mk hg7; clear hbox7 hb7 hg7)
  obtain ⟨w8, hw8⟩ : ∃ w8 : World, w8 = w7.setCell ⟨bk, 0, none⟩ (.func (.func 52) #[] #[.pointer (some ⟨bt, 0, none⟩), .pointer (some ⟨bw, 0, none⟩), .pointer (some ⟨bm, 0, none⟩), .pointer (some ⟨bd, 0, none⟩), .pointer (some ⟨bk, 0, none⟩)]) := ⟨_, rfl⟩
  rw [← hw8]
  have O5 := Aside0.mk (show bd < bk by rw [GG7.out]; exact blk_lt D6.out)
  have L8 : Below w6.heap.size w6 w8 := by rw [hw8]; exact below_set BB7.out (Nat.le_of_eq GG7.out.symm)
  have K8 : Aside0 (w8.heap[bk]? = some (.cells #[(.func (.func 52) #[] #[.pointer (some ⟨bt, 0, none⟩), .pointer (some ⟨bw, 0, none⟩), .pointer (some ⟨bm, 0, none⟩), .pointer (some ⟨bd, 0, none⟩), .pointer (some ⟨bk, 0, none⟩)])] 70 (0, 0))) := ⟨by rw [hw8]; exact blk_set BO7.out 0 _⟩
  have HE : Aside0 (ChkEnv w w8 l0 A0 c0 bt b bm bw bd bk (-1) (-1)) := ⟨below_then B6.out B6.out.size L8, HR.out, HC.out, blk_below T6.out L8, blk_below F6.out L8, blk_below M6.out L8, blk_below W6.out L8, blk_below D6.out L8, K8.out, by have := GG1.out; have := O1.out; have := O2.out; have := O3.out; have := O4.out; have := O5.out; omega⟩
  clear hw8 hc7 hf7 BO7 BB7 GG7 L8 K8 T6 F6 M6 W6 D6 B6 O1 O2 O3 O4 O5 GG1
  obtain ⟨hct, hcm, hcw, hcd, hck, hfw, hfd⟩ := HE.out.get
  have CALL := Aside0.mk (chk_walk HL.out k 0 1 54 [] _ _ _ _ _ _ w8 HE.out enters_two (may_two _ _ _) HWA.out)
  have hent2 : ∀ (args : Array Value) (w : World), Sem.run Try.prog (callFunc 52 args) w = .ok (.enter 52 args) w := enters_walk
  go_upto_block 0 with ((with_reducible refine CALL.out.mono ?_); rintro e w9 ⟨rfl, HE2, KP2⟩; have HE3 := Aside0.mk HE2; clear HE2 KP2)
  clear hct hcm hcw hcd hck hfw hfd CALL hent2 HE
  have H := HH.out
  clear HH
  obtain ⟨hct, hcm, hcw, hcd, hck, hfw, hfd⟩ := HE3.out.get
  by_cases cA : 0 ≤ q2
  · rw [if_pos cA] at H
    have cAb : decide (0 ≤ q2) = true := decide_eq_true cA
    clear cA
    simp only [Option.some.injEq, Prod.mk.injEq] at H
    obtain ⟨rfl, rfl⟩ := H
    go_wp2
    go_ret2
    exact ⟨rfl, HE3.out.below⟩
  rw [if_neg cA] at H
  have cAb : decide (0 ≤ q2) = false := decide_eq_false cA
  clear cA
  by_cases cB : q1 < (l0.length : Int)
  · rw [if_pos cB] at H
    have cBb : decide (q1 < (l0.length : Int)) = true := decide_eq_true cB
    clear cB
    simp only [Option.some.injEq, Prod.mk.injEq] at H
    obtain ⟨rfl, rfl⟩ := H
    go_wp2
    go_ret2
    exact ⟨rfl, HE3.out.below⟩
  rw [if_neg cB] at H
  have cBb : decide (q1 < (l0.length : Int)) = false := decide_eq_false cB
  clear cB
  by_cases cC : 0 ≤ q3
  · rw [if_pos cC] at H
    have cCb : decide (0 ≤ q3) = true := decide_eq_true cC
    clear cC
    simp only [Option.some.injEq, Prod.mk.injEq] at H
    obtain ⟨rfl, rfl⟩ := H
    go_wp2
    go_ret2
    exact ⟨rfl, HE3.out.below⟩
  rw [if_neg cC] at H
  have cCb : decide (0 ≤ q3) = false := decide_eq_false cC
  clear cC
  simp only [Option.some.injEq, Prod.mk.injEq] at H
  obtain ⟨rfl, rfl⟩ := H
  go_wp2
  go_ret2
  exact ⟨rfl, HE3.out.below⟩
end Go.Proofs.Ytlbchdalimngjaa.P
