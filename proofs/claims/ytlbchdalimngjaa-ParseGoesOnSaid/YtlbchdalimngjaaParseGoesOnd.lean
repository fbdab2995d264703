/- Parts of a proof, joined by a program: Proved here: the statement prompterlaw09.ParseGoesOn holds for every input that the row speaks of (no condition of mine). -/
import Derived.Test.YtlbchdalimngjaaParseGoesOnc
namespace Go.Proofs.Ytlbchdalimngjaa.P
open Go.RowKit Go.Proofs.YtlbchdalimngjaaW.PrintWords Go.Proofs.YtlbchdalimngjaaW.PrintLast Go.Proofs.YtlbchdalimngjaaW.PrintMore
attribute [local go_sem] mk_run' mk_events'
set_option linter.unusedVariables false
set_option linter.unusedSimpArgs false
set_option maxHeartbeats 8000000 in
set_option maxRecDepth 100000 in
theorem rd_prim {k : Nat} (IH : ∀ m, m < k + 1 → AllOk m) : Fn_ 126 (primS (k + 1)) := by
  intro l long r w0 w g size hr hl hI hB
  have K0 := Aside0.mk (Keeps.refl hI hB)
  have GL := Aside0.mk hI.lt
  have HL0 := Aside0.mk hl
  have HIH := Aside0.mk IH
  clear hI hB hl IH
  obtain ⟨A0, c0, hbq, hq1, hq2, hq3⟩ := K0.out.i
  have hc0 : w.cell? ⟨g, 0, none⟩ = some (.slice A0 l.length c0) := (blk_cell hbq 0).trans rfl
  cases l with
  | nil =>
    rw [primS] at hr
    obtain rfl := Option.some.inj hr
    clear hr hbq hq1 hq2 hq3
    go_enter Try.func126, Try.ntmps126
    go_wp2_with (first | (go_at_call 79; (with_reducible refine (ks_fault K0.out).mono ?_); rintro e w' ⟨rfl, hb⟩))
    exact ⟨rfl, rfl, hb⟩
  | cons x r0 =>
    rw [primS] at hr
    obtain ⟨ad, rfl, p0, p1, p2, p3⟩ := rd_head hq3
    have q0 : w.cell? ad = some (.int .u8 x.f0) := pw_cell_below K0.out.b p0
    have q1 : w.cell? ⟨ad.block, ad.off + 1, none⟩ = some (.string x.f1) := pw_cell_below K0.out.b p1
    have q2 : w.cell? ⟨ad.block, ad.off + 2, none⟩ = some (.int .i64 x.f2) := pw_cell_below K0.out.b p2
    have q3 : w.cell? ⟨ad.block, ad.off + 3, none⟩ = some (.int .i64 x.f3) := pw_cell_below K0.out.b p3
    clear p0 p1 p2 p3 hbq hq1 hq2 hq3
    have hl0 : decide (((r0.length + 1 : Nat) : Int) = 0) = false := decide_eq_false (by omega)
    have hl2 : decide (0 < r0.length + 1) = true := decide_eq_true (by omega)
    have HL1 := Aside0.mk HL0.out
    rcases ite_inv hr with ⟨hn, hr⟩ | ⟨hn, hr⟩
    · have e2 : (x.f0 == 2) = true := by simp [hn]
      clear hn
      obtain rfl := Option.some.inj hr
      clear hr
      go_enter Try.func126, Try.ntmps126
      go_upto_region 4 with (fail)
      obtain ⟨b1, hbb⟩ : ∃ b, b = w.heap.size := ⟨_, rfl⟩
      obtain ⟨w1, hww⟩ : ∃ W : World, W = w.alloc (.cells #[.int .u8 x.f0, .string x.f1, .int .i64 x.f2, .int .i64 x.f3] 33 (0, 0)) := ⟨_, rfl⟩
      have K1 := Aside0.mk (show Keeps w0 w w1 g _ size _ by rw [hww]; exact K0.out.alloc _)
      have X1 := Aside0.mk (show w1.heap[b1]? = some (.cells #[.int .u8 x.f0, .string x.f1, .int .i64 x.f2, .int .i64 x.f3] 33 (0, 0)) by rw [hww, hbb]; exact blk_new _ _)
      have Y1 := Aside0.mk (show g < b1 by rw [hbb]; exact K0.out.i.lt)
      rw [← hww, ← hbb]
      clear hww hbb
      have hx0 : w1.cell? ⟨b1, 0, none⟩ = some (.int .u8 x.f0) := (blk_cell X1.out 0).trans rfl
      have hx1 : w1.cell? ⟨b1, 1, none⟩ = some (.string x.f1) := (blk_cell X1.out 1).trans rfl
      have hx2 : w1.cell? ⟨b1, 2, none⟩ = some (.int .i64 x.f2) := (blk_cell X1.out 2).trans rfl
      obtain ⟨A8, c8, A9, c9, hc9, hf9, hcut, hnew⟩ := rd_next K1.out.i
      go_upto_region 7 with (fail)
      obtain ⟨w2, hww⟩ : ∃ W : World, W = w1.setCell ⟨g, 0, none⟩ (.slice A9 r0.length c9) := ⟨_, rfl⟩
      have K2 := Aside0.mk (K1.out.then_ (show Keeps w0 w1 w2 g r0 size long by rw [hww]; exact ⟨hnew, below_set K1.out.b K1.out.i.ge, (KeepBut.refl _ _ _).set_ _ _⟩))
      have X2 := Aside0.mk (show w2.heap[b1]? = some (.cells #[.int .u8 x.f0, .string x.f1, .int .i64 x.f2, .int .i64 x.f3] 33 (0, 0)) by rw [hww]; exact blk_far X1.out (by have := Y1.out; show b1 ≠ g; omega) _)
      rw [← hww]
      clear hww hnew hcut hf9 hc9 hx0 hx1 hx2
      have hx : w2.cell? ⟨b1, 2, none⟩ = some (.int .i64 x.f2) := (blk_cell X2.out 2).trans rfl
      go_wp2_with (first | ((with_reducible refine gate_dst (N := 37) rfl ?_); refine Kd.R_lit k43 _ 43 ?hg (N := 37) ?hd (xs := ([(⟨23, 0, x.f2, ⟨#[]⟩⟩ : Twg)] : List Twg)) (inner := [.int .u8 23, .int .i64 0, .int .i64 x.f2, .string ⟨#[]⟩]) (ok := fun _ => True) (okp := fun _ => True) ?hr ?hp (fun _ hk => hk) trivial (Below.refl _ _) (Nat.le_refl _) (by simp) ?_; (case hd => rfl); (case hg => rfl); (case hr => first | (go_simp; done) | (go_simp; rfl)); (case hp => exact (Reps.c4 (show Kd.M k43 _ _ _ (⟨23, 0, x.f2, ⟨#[]⟩⟩ : Twg) [.int .u8 23, .int .i64 0, .int .i64 x.f2, .string ⟨#[]⟩] from (k43_mkM _ _ _ (⟨23, 0, x.f2, ⟨#[]⟩⟩ : Twg))) (Reps.none _ _))); intro v0 w3 ho hb _ _; have T0 := Aside0.mk (Kd.R_lower ho K2.out.grows); have K3 := Aside0.mk (K2.out.below hb); clear ho hb))
      go_ret
      exact PostR.ok_ (Tr.one T0.out) K3.out
    · have e2 : (x.f0 == 2) = false := by simp [hn]
      clear hn
      rcases ite_inv hr with ⟨hn, hr⟩ | ⟨hn, hr⟩
      · have e3 : (x.f0 == 3) = true := by simp [hn]
        clear hn
        obtain rfl := Option.some.inj hr
        clear hr
        go_enter Try.func126, Try.ntmps126
        go_upto_region 4 with (fail)
        obtain ⟨b1, hbb⟩ : ∃ b, b = w.heap.size := ⟨_, rfl⟩
        obtain ⟨w1, hww⟩ : ∃ W : World, W = w.alloc (.cells #[.int .u8 x.f0, .string x.f1, .int .i64 x.f2, .int .i64 x.f3] 33 (0, 0)) := ⟨_, rfl⟩
        have K1 := Aside0.mk (show Keeps w0 w w1 g _ size _ by rw [hww]; exact K0.out.alloc _)
        have X1 := Aside0.mk (show w1.heap[b1]? = some (.cells #[.int .u8 x.f0, .string x.f1, .int .i64 x.f2, .int .i64 x.f3] 33 (0, 0)) by rw [hww, hbb]; exact blk_new _ _)
        have Y1 := Aside0.mk (show g < b1 by rw [hbb]; exact K0.out.i.lt)
        rw [← hww, ← hbb]
        clear hww hbb
        have hx0 : w1.cell? ⟨b1, 0, none⟩ = some (.int .u8 x.f0) := (blk_cell X1.out 0).trans rfl
        have hx1 : w1.cell? ⟨b1, 1, none⟩ = some (.string x.f1) := (blk_cell X1.out 1).trans rfl
        have hx2 : w1.cell? ⟨b1, 2, none⟩ = some (.int .i64 x.f2) := (blk_cell X1.out 2).trans rfl
        obtain ⟨A8, c8, A9, c9, hc9, hf9, hcut, hnew⟩ := rd_next K1.out.i
        go_upto_region 10 with (fail)
        obtain ⟨w2, hww⟩ : ∃ W : World, W = w1.setCell ⟨g, 0, none⟩ (.slice A9 r0.length c9) := ⟨_, rfl⟩
        have K2 := Aside0.mk (K1.out.then_ (show Keeps w0 w1 w2 g r0 size long by rw [hww]; exact ⟨hnew, below_set K1.out.b K1.out.i.ge, (KeepBut.refl _ _ _).set_ _ _⟩))
        have X2 := Aside0.mk (show w2.heap[b1]? = some (.cells #[.int .u8 x.f0, .string x.f1, .int .i64 x.f2, .int .i64 x.f3] 33 (0, 0)) by rw [hww]; exact blk_far X1.out (by have := Y1.out; show b1 ≠ g; omega) _)
        rw [← hww]
        clear hww hnew hcut hf9 hc9 hx0 hx1 hx2
        have hx : w2.cell? ⟨b1, 1, none⟩ = some (.string x.f1) := (blk_cell X2.out 1).trans rfl
        go_wp2_with (first | ((with_reducible refine gate_dst (N := 51) rfl ?_); refine Kd.R_lit k43 _ 43 ?hg (N := 51) ?hd (xs := ([(⟨24, 0, 0, x.f1⟩ : Twg)] : List Twg)) (inner := [.int .u8 24, .int .i64 0, .int .i64 0, .string x.f1]) (ok := fun _ => True) (okp := fun _ => True) ?hr ?hp (fun _ hk => hk) trivial (Below.refl _ _) (Nat.le_refl _) (by simp) ?_; (case hd => rfl); (case hg => rfl); (case hr => first | (go_simp; done) | (go_simp; rfl)); (case hp => exact (Reps.c4 (show Kd.M k43 _ _ _ (⟨24, 0, 0, x.f1⟩ : Twg) [.int .u8 24, .int .i64 0, .int .i64 0, .string x.f1] from (k43_mkM _ _ _ (⟨24, 0, 0, x.f1⟩ : Twg))) (Reps.none _ _))); intro v0 w3 ho hb _ _; have T0 := Aside0.mk (Kd.R_lower ho K2.out.grows); have K3 := Aside0.mk (K2.out.below hb); clear ho hb))
        go_ret
        exact PostR.ok_ (Tr.one T0.out) K3.out
      · have e3 : (x.f0 == 3) = false := by simp [hn]
        clear hn
        rcases ite_inv hr with ⟨hn, hr⟩ | ⟨hn, hr⟩
        · have HN0 := Aside0.mk hn
          clear hn
          obtain rfl := Option.some.inj hr
          clear hr
          go_enter Try.func126, Try.ntmps126
          go_upto_region 4 with (fail)
          obtain ⟨b1, hbb⟩ : ∃ b, b = w.heap.size := ⟨_, rfl⟩
          obtain ⟨w1, hww⟩ : ∃ W : World, W = w.alloc (.cells #[.int .u8 x.f0, .string x.f1, .int .i64 x.f2, .int .i64 x.f3] 33 (0, 0)) := ⟨_, rfl⟩
          have K1 := Aside0.mk (show Keeps w0 w w1 g _ size _ by rw [hww]; exact K0.out.alloc _)
          have X1 := Aside0.mk (show w1.heap[b1]? = some (.cells #[.int .u8 x.f0, .string x.f1, .int .i64 x.f2, .int .i64 x.f3] 33 (0, 0)) by rw [hww, hbb]; exact blk_new _ _)
          have Y1 := Aside0.mk (show g < b1 by rw [hbb]; exact K0.out.i.lt)
          rw [← hww, ← hbb]
          clear hww hbb
          have hx0 : w1.cell? ⟨b1, 0, none⟩ = some (.int .u8 x.f0) := (blk_cell X1.out 0).trans rfl
          have hx1 : w1.cell? ⟨b1, 1, none⟩ = some (.string x.f1) := (blk_cell X1.out 1).trans rfl
          have hx2 : w1.cell? ⟨b1, 2, none⟩ = some (.int .i64 x.f2) := (blk_cell X1.out 2).trans rfl
          clear hx1 hx2
          go_wp2_with (first | (go_at_call 107; (with_reducible refine (ks_mine K1.out HN0.out).mono ?_); rintro e w2 ⟨rfl, hk⟩; have K2 := Aside0.mk hk.k; clear hk) | (go_at_call 85; (with_reducible refine (ks_own_t K2.out HN0.out).mono ?_); rintro e w3 ⟨rfl, hk⟩; have K3 := Aside0.mk hk.k; clear hk) | ((with_reducible refine gate_dst (N := 57) rfl ?_); refine Kd.R_lit k43 _ 43 ?hg (N := 57) ?hd (xs := ([(⟨26, 0, 0, x.f1⟩ : Twg)] : List Twg)) (inner := [.int .u8 26, .int .i64 0, .int .i64 0, .string x.f1]) (ok := fun _ => True) (okp := fun _ => True) ?hr ?hp (fun _ hk => hk) trivial (Below.refl _ _) (Nat.le_refl _) (by simp) ?_; (case hd => rfl); (case hg => rfl); (case hr => first | (go_simp; done) | (go_simp; rfl)); (case hp => exact (Reps.c4 (show Kd.M k43 _ _ _ (⟨26, 0, 0, x.f1⟩ : Twg) [.int .u8 26, .int .i64 0, .int .i64 0, .string x.f1] from (k43_mkM _ _ _ (⟨26, 0, 0, x.f1⟩ : Twg))) (Reps.none _ _))); intro v0 w4 ho hb _ _; have T0 := Aside0.mk (Kd.R_lower ho K3.out.grows); have K4 := Aside0.mk (K3.out.below hb); clear ho hb))
          go_ret
          exact PostR.ok_ (Tr.one T0.out) K4.out
        · have HN0 := Aside0.mk (Bool.eq_false_iff.2 hn)
          have HL2 := Aside0.mk HL1.out
          clear hn
          cases k with
          | zero => simp [wordS] at hr
          | succ k =>
            rw [wordS] at hr
            have IHk := Aside0.mk (HIH.out k (by omega))
            have IHm := Aside0.mk (show ∀ m, m < k → AllOk m from fun m hm => HIH.out m (by omega))
            clear HIH
            rcases ite_inv hr with ⟨hn, hq⟩ | ⟨hn, hq⟩
            · clear hr; have hr := hq; clear hq; skip
              try simp only [List.tail_cons] at hr
              have HN1 := Aside0.mk hn
              have HL3 := Aside0.mk (show r0.length ≤ 100000 by have := HL2.out; rw [List.length_cons] at this; omega)
              clear hn
              obtain rfl := Option.some.inj hr
              clear hr
              go_enter Try.func126, Try.ntmps126
              go_upto_region 4 with (fail)
              obtain ⟨b1, hbb⟩ : ∃ b, b = w.heap.size := ⟨_, rfl⟩
              obtain ⟨w1, hww⟩ : ∃ W : World, W = w.alloc (.cells #[.int .u8 x.f0, .string x.f1, .int .i64 x.f2, .int .i64 x.f3] 33 (0, 0)) := ⟨_, rfl⟩
              have K1 := Aside0.mk (show Keeps w0 w w1 g _ size _ by rw [hww]; exact K0.out.alloc _)
              have X1 := Aside0.mk (show w1.heap[b1]? = some (.cells #[.int .u8 x.f0, .string x.f1, .int .i64 x.f2, .int .i64 x.f3] 33 (0, 0)) by rw [hww, hbb]; exact blk_new _ _)
              have Y1 := Aside0.mk (show g < b1 by rw [hbb]; exact K0.out.i.lt)
              rw [← hww, ← hbb]
              clear hww hbb
              have hx0 : w1.cell? ⟨b1, 0, none⟩ = some (.int .u8 x.f0) := (blk_cell X1.out 0).trans rfl
              have hx1 : w1.cell? ⟨b1, 1, none⟩ = some (.string x.f1) := (blk_cell X1.out 1).trans rfl
              have hx2 : w1.cell? ⟨b1, 2, none⟩ = some (.int .i64 x.f2) := (blk_cell X1.out 2).trans rfl
              clear hx1 hx2
              go_wp2_with (first | (go_at_call 107; (with_reducible refine (ks_mine K1.out HN0.out).mono ?_); rintro e w2 ⟨rfl, hk⟩; have K2 := Aside0.mk hk.k; clear hk) | (go_at_call 99; (with_reducible refine (ks_has_t (⟨#[110, 111, 110, 101]⟩ : ByteArray) K2.out HN1.out).mono ?_); rintro e w3 ⟨rfl, hk⟩; have K3 := Aside0.mk hk.k; clear hk) | ((with_reducible refine gate_dst (N := 62) rfl ?_); refine Kd.R_lit k43 _ 43 ?hg (N := 62) ?hd (xs := ([(⟨20, 0, 0, ⟨#[]⟩⟩ : Twg)] : List Twg)) (inner := [.int .u8 20, .int .i64 0, .int .i64 0, .string ⟨#[]⟩]) (ok := fun _ => True) (okp := fun _ => True) ?hr ?hp (fun _ hk => hk) trivial (Below.refl _ _) (Nat.le_refl _) (by simp) ?_; (case hd => rfl); (case hg => rfl); (case hr => first | (go_simp; done) | (go_simp; rfl)); (case hp => exact (Reps.c4 (show Kd.M k43 _ _ _ (⟨20, 0, 0, ⟨#[]⟩⟩ : Twg) [.int .u8 20, .int .i64 0, .int .i64 0, .string ⟨#[]⟩] from (k43_mkM _ _ _ (⟨20, 0, 0, ⟨#[]⟩⟩ : Twg))) (Reps.none _ _))); intro v0 w4 ho hb _ _; have T0 := Aside0.mk (Kd.R_lower ho K3.out.grows); have K4 := Aside0.mk (K3.out.below hb); clear ho hb))
              go_ret
              exact PostR.ok_ (Tr.one T0.out) K4.out
            · clear hr; have hr := hq; clear hq; have HN1 := Aside0.mk (Bool.eq_false_iff.2 hn)
              clear hn
              rcases ite_inv hr with ⟨hn, hq⟩ | ⟨hn, hq⟩
              · clear hr; have hr := hq; clear hq; skip
                try simp only [List.tail_cons] at hr
                have HN2 := Aside0.mk hn
                have HL3 := Aside0.mk (show r0.length ≤ 100000 by have := HL2.out; rw [List.length_cons] at this; omega)
                clear hn
                obtain rfl := Option.some.inj hr
                clear hr
                go_enter Try.func126, Try.ntmps126
                go_upto_region 4 with (fail)
                obtain ⟨b1, hbb⟩ : ∃ b, b = w.heap.size := ⟨_, rfl⟩
                obtain ⟨w1, hww⟩ : ∃ W : World, W = w.alloc (.cells #[.int .u8 x.f0, .string x.f1, .int .i64 x.f2, .int .i64 x.f3] 33 (0, 0)) := ⟨_, rfl⟩
                have K1 := Aside0.mk (show Keeps w0 w w1 g _ size _ by rw [hww]; exact K0.out.alloc _)
                have X1 := Aside0.mk (show w1.heap[b1]? = some (.cells #[.int .u8 x.f0, .string x.f1, .int .i64 x.f2, .int .i64 x.f3] 33 (0, 0)) by rw [hww, hbb]; exact blk_new _ _)
                have Y1 := Aside0.mk (show g < b1 by rw [hbb]; exact K0.out.i.lt)
                rw [← hww, ← hbb]
                clear hww hbb
                have hx0 : w1.cell? ⟨b1, 0, none⟩ = some (.int .u8 x.f0) := (blk_cell X1.out 0).trans rfl
                have hx1 : w1.cell? ⟨b1, 1, none⟩ = some (.string x.f1) := (blk_cell X1.out 1).trans rfl
                have hx2 : w1.cell? ⟨b1, 2, none⟩ = some (.int .i64 x.f2) := (blk_cell X1.out 2).trans rfl
                clear hx1 hx2
                go_wp2_with (first | (go_at_call 107; (with_reducible refine (ks_mine K1.out HN0.out).mono ?_); rintro e w2 ⟨rfl, hk⟩; have K2 := Aside0.mk hk.k; clear hk) | (go_at_call 99; (with_reducible refine (ks_has_f (⟨#[110, 111, 110, 101]⟩ : ByteArray) K2.out HN1.out).mono ?_); rintro e w' ⟨rfl, rfl⟩) | (go_at_call 99; (with_reducible refine (ks_has_t (⟨#[116, 114, 117, 101]⟩ : ByteArray) K2.out HN2.out).mono ?_); rintro e w3 ⟨rfl, hk⟩; have K3 := Aside0.mk hk.k; clear hk) | ((with_reducible refine gate_dst (N := 67) rfl ?_); refine Kd.R_lit k43 _ 43 ?hg (N := 67) ?hd (xs := ([(⟨21, 0, 0, ⟨#[]⟩⟩ : Twg)] : List Twg)) (inner := [.int .u8 21, .int .i64 0, .int .i64 0, .string ⟨#[]⟩]) (ok := fun _ => True) (okp := fun _ => True) ?hr ?hp (fun _ hk => hk) trivial (Below.refl _ _) (Nat.le_refl _) (by simp) ?_; (case hd => rfl); (case hg => rfl); (case hr => first | (go_simp; done) | (go_simp; rfl)); (case hp => exact (Reps.c4 (show Kd.M k43 _ _ _ (⟨21, 0, 0, ⟨#[]⟩⟩ : Twg) [.int .u8 21, .int .i64 0, .int .i64 0, .string ⟨#[]⟩] from (k43_mkM _ _ _ (⟨21, 0, 0, ⟨#[]⟩⟩ : Twg))) (Reps.none _ _))); intro v0 w4 ho hb _ _; have T0 := Aside0.mk (Kd.R_lower ho K3.out.grows); have K4 := Aside0.mk (K3.out.below hb); clear ho hb))
                go_ret
                exact PostR.ok_ (Tr.one T0.out) K4.out
              · clear hr; have hr := hq; clear hq; have HN2 := Aside0.mk (Bool.eq_false_iff.2 hn)
                clear hn
                rcases ite_inv hr with ⟨hn, hq⟩ | ⟨hn, hq⟩
                · clear hr; have hr := hq; clear hq; skip
                  try simp only [List.tail_cons] at hr
                  have HN3 := Aside0.mk hn
                  have HL3 := Aside0.mk (show r0.length ≤ 100000 by have := HL2.out; rw [List.length_cons] at this; omega)
                  clear hn
                  obtain rfl := Option.some.inj hr
                  clear hr
                  go_enter Try.func126, Try.ntmps126
                  go_upto_region 4 with (fail)
                  obtain ⟨b1, hbb⟩ : ∃ b, b = w.heap.size := ⟨_, rfl⟩
                  obtain ⟨w1, hww⟩ : ∃ W : World, W = w.alloc (.cells #[.int .u8 x.f0, .string x.f1, .int .i64 x.f2, .int .i64 x.f3] 33 (0, 0)) := ⟨_, rfl⟩
                  have K1 := Aside0.mk (show Keeps w0 w w1 g _ size _ by rw [hww]; exact K0.out.alloc _)
                  have X1 := Aside0.mk (show w1.heap[b1]? = some (.cells #[.int .u8 x.f0, .string x.f1, .int .i64 x.f2, .int .i64 x.f3] 33 (0, 0)) by rw [hww, hbb]; exact blk_new _ _)
                  have Y1 := Aside0.mk (show g < b1 by rw [hbb]; exact K0.out.i.lt)
                  rw [← hww, ← hbb]
                  clear hww hbb
                  have hx0 : w1.cell? ⟨b1, 0, none⟩ = some (.int .u8 x.f0) := (blk_cell X1.out 0).trans rfl
                  have hx1 : w1.cell? ⟨b1, 1, none⟩ = some (.string x.f1) := (blk_cell X1.out 1).trans rfl
                  have hx2 : w1.cell? ⟨b1, 2, none⟩ = some (.int .i64 x.f2) := (blk_cell X1.out 2).trans rfl
                  clear hx1 hx2
                  go_wp2_with (first | (go_at_call 107; (with_reducible refine (ks_mine K1.out HN0.out).mono ?_); rintro e w2 ⟨rfl, hk⟩; have K2 := Aside0.mk hk.k; clear hk) | (go_at_call 99; (with_reducible refine (ks_has_f (⟨#[110, 111, 110, 101]⟩ : ByteArray) K2.out HN1.out).mono ?_); rintro e w' ⟨rfl, rfl⟩) | (go_at_call 99; (with_reducible refine (ks_has_f (⟨#[116, 114, 117, 101]⟩ : ByteArray) K2.out HN2.out).mono ?_); rintro e w' ⟨rfl, rfl⟩) | (go_at_call 99; (with_reducible refine (ks_has_t (⟨#[102, 97, 108, 115, 101]⟩ : ByteArray) K2.out HN3.out).mono ?_); rintro e w3 ⟨rfl, hk⟩; have K3 := Aside0.mk hk.k; clear hk) | ((with_reducible refine gate_dst (N := 72) rfl ?_); refine Kd.R_lit k43 _ 43 ?hg (N := 72) ?hd (xs := ([(⟨22, 0, 0, ⟨#[]⟩⟩ : Twg)] : List Twg)) (inner := [.int .u8 22, .int .i64 0, .int .i64 0, .string ⟨#[]⟩]) (ok := fun _ => True) (okp := fun _ => True) ?hr ?hp (fun _ hk => hk) trivial (Below.refl _ _) (Nat.le_refl _) (by simp) ?_; (case hd => rfl); (case hg => rfl); (case hr => first | (go_simp; done) | (go_simp; rfl)); (case hp => exact (Reps.c4 (show Kd.M k43 _ _ _ (⟨22, 0, 0, ⟨#[]⟩⟩ : Twg) [.int .u8 22, .int .i64 0, .int .i64 0, .string ⟨#[]⟩] from (k43_mkM _ _ _ (⟨22, 0, 0, ⟨#[]⟩⟩ : Twg))) (Reps.none _ _))); intro v0 w4 ho hb _ _; have T0 := Aside0.mk (Kd.R_lower ho K3.out.grows); have K4 := Aside0.mk (K3.out.below hb); clear ho hb))
                  go_ret
                  exact PostR.ok_ (Tr.one T0.out) K4.out
                · clear hr; have hr := hq; clear hq; have HN3 := Aside0.mk (Bool.eq_false_iff.2 hn)
                  clear hn
                  rcases ite_inv hr with ⟨hn, hq⟩ | ⟨hn, hq⟩
                  · clear hr; have hr := hq; clear hq; skip
                    try simp only [List.tail_cons] at hr
                    have HN4 := Aside0.mk hn
                    have HL3 := Aside0.mk (show r0.length ≤ 100000 by have := HL2.out; rw [List.length_cons] at this; omega)
                    clear hn
                    obtain rfl := Option.some.inj hr
                    clear hr
                    go_enter Try.func126, Try.ntmps126
                    go_upto_region 4 with (fail)
                    obtain ⟨b1, hbb⟩ : ∃ b, b = w.heap.size := ⟨_, rfl⟩
                    obtain ⟨w1, hww⟩ : ∃ W : World, W = w.alloc (.cells #[.int .u8 x.f0, .string x.f1, .int .i64 x.f2, .int .i64 x.f3] 33 (0, 0)) := ⟨_, rfl⟩
                    have K1 := Aside0.mk (show Keeps w0 w w1 g _ size _ by rw [hww]; exact K0.out.alloc _)
                    have X1 := Aside0.mk (show w1.heap[b1]? = some (.cells #[.int .u8 x.f0, .string x.f1, .int .i64 x.f2, .int .i64 x.f3] 33 (0, 0)) by rw [hww, hbb]; exact blk_new _ _)
                    have Y1 := Aside0.mk (show g < b1 by rw [hbb]; exact K0.out.i.lt)
                    rw [← hww, ← hbb]
                    clear hww hbb
                    have hx0 : w1.cell? ⟨b1, 0, none⟩ = some (.int .u8 x.f0) := (blk_cell X1.out 0).trans rfl
                    have hx1 : w1.cell? ⟨b1, 1, none⟩ = some (.string x.f1) := (blk_cell X1.out 1).trans rfl
                    have hx2 : w1.cell? ⟨b1, 2, none⟩ = some (.int .i64 x.f2) := (blk_cell X1.out 2).trans rfl
                    clear hx1 hx2
                    go_wp2_with (first | (go_at_call 107; (with_reducible refine (ks_mine K1.out HN0.out).mono ?_); rintro e w2 ⟨rfl, hk⟩; have K2 := Aside0.mk hk.k; clear hk) | (go_at_call 99; (with_reducible refine (ks_has_f (⟨#[110, 111, 110, 101]⟩ : ByteArray) K2.out HN1.out).mono ?_); rintro e w' ⟨rfl, rfl⟩) | (go_at_call 99; (with_reducible refine (ks_has_f (⟨#[116, 114, 117, 101]⟩ : ByteArray) K2.out HN2.out).mono ?_); rintro e w' ⟨rfl, rfl⟩) | (go_at_call 99; (with_reducible refine (ks_has_f (⟨#[102, 97, 108, 115, 101]⟩ : ByteArray) K2.out HN3.out).mono ?_); rintro e w' ⟨rfl, rfl⟩) | (go_at_call 99; (with_reducible refine (ks_has_t (⟨#[118, 101, 114, 115, 105, 111, 110]⟩ : ByteArray) K2.out HN4.out).mono ?_); rintro e w3 ⟨rfl, hk⟩; have K3 := Aside0.mk hk.k; clear hk) | ((with_reducible refine gate_dst (N := 77) rfl ?_); refine Kd.R_lit k43 _ 43 ?hg (N := 77) ?hd (xs := ([(⟨57, 0, 0, ⟨#[]⟩⟩ : Twg)] : List Twg)) (inner := [.int .u8 57, .int .i64 0, .int .i64 0, .string ⟨#[]⟩]) (ok := fun _ => True) (okp := fun _ => True) ?hr ?hp (fun _ hk => hk) trivial (Below.refl _ _) (Nat.le_refl _) (by simp) ?_; (case hd => rfl); (case hg => rfl); (case hr => first | (go_simp; done) | (go_simp; rfl)); (case hp => exact (Reps.c4 (show Kd.M k43 _ _ _ (⟨57, 0, 0, ⟨#[]⟩⟩ : Twg) [.int .u8 57, .int .i64 0, .int .i64 0, .string ⟨#[]⟩] from (k43_mkM _ _ _ (⟨57, 0, 0, ⟨#[]⟩⟩ : Twg))) (Reps.none _ _))); intro v0 w4 ho hb _ _; have T0 := Aside0.mk (Kd.R_lower ho K3.out.grows); have K4 := Aside0.mk (K3.out.below hb); clear ho hb))
                    go_ret
                    exact PostR.ok_ (Tr.one T0.out) K4.out
                  · clear hr; have hr := hq; clear hq; have HN4 := Aside0.mk (Bool.eq_false_iff.2 hn)
                    clear hn
                    rcases ite_inv hr with ⟨hn, hq⟩ | ⟨hn, hq⟩
                    · clear hr; have hr := hq; clear hq; skip
                      try simp only [List.tail_cons] at hr
                      have HN5 := Aside0.mk hn
                      have HL3 := Aside0.mk (show r0.length ≤ 100000 by have := HL2.out; rw [List.length_cons] at this; omega)
                      clear hn
                      rcases ite_inv hr with ⟨hn, hq⟩ | ⟨hn, hq⟩
                      · clear hr; have hr := hq; clear hq; obtain ⟨x6, m6, rfl⟩ := isB_cons hn
                        try simp only [List.tail_cons] at hr
                        have HN6 := Aside0.mk hn
                        clear hn
                        obtain rfl := Option.some.inj hr
                        clear hr
                        go_enter Try.func126, Try.ntmps126
                        go_upto_region 4 with (fail)
                        obtain ⟨b1, hbb⟩ : ∃ b, b = w.heap.size := ⟨_, rfl⟩
                        obtain ⟨w1, hww⟩ : ∃ W : World, W = w.alloc (.cells #[.int .u8 x.f0, .string x.f1, .int .i64 x.f2, .int .i64 x.f3] 33 (0, 0)) := ⟨_, rfl⟩
                        have K1 := Aside0.mk (show Keeps w0 w w1 g _ size _ by rw [hww]; exact K0.out.alloc _)
                        have X1 := Aside0.mk (show w1.heap[b1]? = some (.cells #[.int .u8 x.f0, .string x.f1, .int .i64 x.f2, .int .i64 x.f3] 33 (0, 0)) by rw [hww, hbb]; exact blk_new _ _)
                        have Y1 := Aside0.mk (show g < b1 by rw [hbb]; exact K0.out.i.lt)
                        rw [← hww, ← hbb]
                        clear hww hbb
                        have hx0 : w1.cell? ⟨b1, 0, none⟩ = some (.int .u8 x.f0) := (blk_cell X1.out 0).trans rfl
                        have hx1 : w1.cell? ⟨b1, 1, none⟩ = some (.string x.f1) := (blk_cell X1.out 1).trans rfl
                        have hx2 : w1.cell? ⟨b1, 2, none⟩ = some (.int .i64 x.f2) := (blk_cell X1.out 2).trans rfl
                        clear hx1 hx2
                        go_wp2_with (first | (go_at_call 107; (with_reducible refine (ks_mine K1.out HN0.out).mono ?_); rintro e w2 ⟨rfl, hk⟩; have K2 := Aside0.mk hk.k; clear hk) | (go_at_call 99; (with_reducible refine (ks_has_f (⟨#[110, 111, 110, 101]⟩ : ByteArray) K2.out HN1.out).mono ?_); rintro e w' ⟨rfl, rfl⟩) | (go_at_call 99; (with_reducible refine (ks_has_f (⟨#[116, 114, 117, 101]⟩ : ByteArray) K2.out HN2.out).mono ?_); rintro e w' ⟨rfl, rfl⟩) | (go_at_call 99; (with_reducible refine (ks_has_f (⟨#[102, 97, 108, 115, 101]⟩ : ByteArray) K2.out HN3.out).mono ?_); rintro e w' ⟨rfl, rfl⟩) | (go_at_call 99; (with_reducible refine (ks_has_f (⟨#[118, 101, 114, 115, 105, 111, 110]⟩ : ByteArray) K2.out HN4.out).mono ?_); rintro e w' ⟨rfl, rfl⟩) | (go_at_call 99; (with_reducible refine (ks_has_t (⟨#[91]⟩ : ByteArray) K2.out HN5.out).mono ?_); rintro e w3 ⟨rfl, hk⟩; have K3 := Aside0.mk hk.k; clear hk) | (go_at_call 86; (with_reducible refine (rd_listm_nil (⟨#[93]⟩ : ByteArray) K3.out HN6.out).mono ?_); rintro e w4 ⟨rfl, hk⟩; have K4 := Aside0.mk hk.k; clear hk) | (go_at_call 88; refine (rd_of_row (ts := []) (A := none) (c := 0) K4.out GL.out (Sr.nil _ _) (by simp)).mono ?_; rintro e w5 ⟨A90, c90, rfl, ht, hk⟩; have T90 := Aside0.mk ht; have K5 := Aside0.mk hk; clear ht hk))
                        go_ret
                        exact PostR.ok_ T90.out K5.out
                      · clear hr; have hr := hq; clear hq; have HN6 := Aside0.mk (Bool.eq_false_iff.2 hn)
                        clear hn
                        rcases andThen_inv hr with ⟨ps, m6, g9, h1, hq⟩ | ⟨m6, h1, rfl⟩
                        · have H6 := Aside0.mk h1
                          have HP := Aside0.mk (show ps.length ≤ 100000 by have := (list_sh h1).2; have := HL3.out; omega)
                          obtain rfl := Option.some.inj hq
                          clear h1 hr hq
                          go_enter Try.func126, Try.ntmps126
                          go_upto_region 4 with (fail)
                          obtain ⟨b1, hbb⟩ : ∃ b, b = w.heap.size := ⟨_, rfl⟩
                          obtain ⟨w1, hww⟩ : ∃ W : World, W = w.alloc (.cells #[.int .u8 x.f0, .string x.f1, .int .i64 x.f2, .int .i64 x.f3] 33 (0, 0)) := ⟨_, rfl⟩
                          have K1 := Aside0.mk (show Keeps w0 w w1 g _ size _ by rw [hww]; exact K0.out.alloc _)
                          have X1 := Aside0.mk (show w1.heap[b1]? = some (.cells #[.int .u8 x.f0, .string x.f1, .int .i64 x.f2, .int .i64 x.f3] 33 (0, 0)) by rw [hww, hbb]; exact blk_new _ _)
                          have Y1 := Aside0.mk (show g < b1 by rw [hbb]; exact K0.out.i.lt)
                          rw [← hww, ← hbb]
                          clear hww hbb
                          have hx0 : w1.cell? ⟨b1, 0, none⟩ = some (.int .u8 x.f0) := (blk_cell X1.out 0).trans rfl
                          have hx1 : w1.cell? ⟨b1, 1, none⟩ = some (.string x.f1) := (blk_cell X1.out 1).trans rfl
                          have hx2 : w1.cell? ⟨b1, 2, none⟩ = some (.int .i64 x.f2) := (blk_cell X1.out 2).trans rfl
                          clear hx1 hx2
                          go_wp2_with (first | (go_at_call 107; (with_reducible refine (ks_mine K1.out HN0.out).mono ?_); rintro e w2 ⟨rfl, hk⟩; have K2 := Aside0.mk hk.k; clear hk) | (go_at_call 99; (with_reducible refine (ks_has_f (⟨#[110, 111, 110, 101]⟩ : ByteArray) K2.out HN1.out).mono ?_); rintro e w' ⟨rfl, rfl⟩) | (go_at_call 99; (with_reducible refine (ks_has_f (⟨#[116, 114, 117, 101]⟩ : ByteArray) K2.out HN2.out).mono ?_); rintro e w' ⟨rfl, rfl⟩) | (go_at_call 99; (with_reducible refine (ks_has_f (⟨#[102, 97, 108, 115, 101]⟩ : ByteArray) K2.out HN3.out).mono ?_); rintro e w' ⟨rfl, rfl⟩) | (go_at_call 99; (with_reducible refine (ks_has_f (⟨#[118, 101, 114, 115, 105, 111, 110]⟩ : ByteArray) K2.out HN4.out).mono ?_); rintro e w' ⟨rfl, rfl⟩) | (go_at_call 99; (with_reducible refine (ks_has_t (⟨#[91]⟩ : ByteArray) K2.out HN5.out).mono ?_); rintro e w3 ⟨rfl, hk⟩; have K3 := Aside0.mk hk.k; clear hk) | (go_at_call 86; (with_reducible refine (ks_list IHm.out (⟨#[93]⟩ : ByteArray) H6.out HL3.out K3.out HN6.out).mono ?_); rintro e w4 ⟨A80, c80, rfl, hs, hk⟩; have K4 := Aside0.mk hk.k; have S80 := Aside0.mk hs; clear hs hk) | (go_at_call 88; refine (rd_of_row (ts := ps) (A := A80) (c := c80) K4.out GL.out S80.out (by have := HP.out; omega)).mono ?_; rintro e w5 ⟨A90, c90, rfl, ht, hk⟩; have T90 := Aside0.mk ht; have K5 := Aside0.mk hk; clear ht hk))
                          go_ret
                          exact PostR.ok_ T90.out K5.out
                        · have H6 := Aside0.mk h1
                          clear h1 hr
                          go_enter Try.func126, Try.ntmps126
                          go_upto_region 4 with (fail)
                          obtain ⟨b1, hbb⟩ : ∃ b, b = w.heap.size := ⟨_, rfl⟩
                          obtain ⟨w1, hww⟩ : ∃ W : World, W = w.alloc (.cells #[.int .u8 x.f0, .string x.f1, .int .i64 x.f2, .int .i64 x.f3] 33 (0, 0)) := ⟨_, rfl⟩
                          have K1 := Aside0.mk (show Keeps w0 w w1 g _ size _ by rw [hww]; exact K0.out.alloc _)
                          have X1 := Aside0.mk (show w1.heap[b1]? = some (.cells #[.int .u8 x.f0, .string x.f1, .int .i64 x.f2, .int .i64 x.f3] 33 (0, 0)) by rw [hww, hbb]; exact blk_new _ _)
                          have Y1 := Aside0.mk (show g < b1 by rw [hbb]; exact K0.out.i.lt)
                          rw [← hww, ← hbb]
                          clear hww hbb
                          have hx0 : w1.cell? ⟨b1, 0, none⟩ = some (.int .u8 x.f0) := (blk_cell X1.out 0).trans rfl
                          have hx1 : w1.cell? ⟨b1, 1, none⟩ = some (.string x.f1) := (blk_cell X1.out 1).trans rfl
                          have hx2 : w1.cell? ⟨b1, 2, none⟩ = some (.int .i64 x.f2) := (blk_cell X1.out 2).trans rfl
                          clear hx1 hx2
                          go_wp2_with (first | (go_at_call 107; (with_reducible refine (ks_mine K1.out HN0.out).mono ?_); rintro e w2 ⟨rfl, hk⟩; have K2 := Aside0.mk hk.k; clear hk) | (go_at_call 99; (with_reducible refine (ks_has_f (⟨#[110, 111, 110, 101]⟩ : ByteArray) K2.out HN1.out).mono ?_); rintro e w' ⟨rfl, rfl⟩) | (go_at_call 99; (with_reducible refine (ks_has_f (⟨#[116, 114, 117, 101]⟩ : ByteArray) K2.out HN2.out).mono ?_); rintro e w' ⟨rfl, rfl⟩) | (go_at_call 99; (with_reducible refine (ks_has_f (⟨#[102, 97, 108, 115, 101]⟩ : ByteArray) K2.out HN3.out).mono ?_); rintro e w' ⟨rfl, rfl⟩) | (go_at_call 99; (with_reducible refine (ks_has_f (⟨#[118, 101, 114, 115, 105, 111, 110]⟩ : ByteArray) K2.out HN4.out).mono ?_); rintro e w' ⟨rfl, rfl⟩) | (go_at_call 99; (with_reducible refine (ks_has_t (⟨#[91]⟩ : ByteArray) K2.out HN5.out).mono ?_); rintro e w3 ⟨rfl, hk⟩; have K3 := Aside0.mk hk.k; clear hk) | (go_at_call 86; (with_reducible refine (ks_list_bad IHm.out (⟨#[93]⟩ : ByteArray) H6.out HL3.out K3.out HN6.out).mono ?_); rintro e w' ⟨rfl, hb⟩))
                          exact ⟨rfl, rfl, hb⟩
                    · clear hr; have hr := hq; clear hq; have HN5 := Aside0.mk (Bool.eq_false_iff.2 hn)
                      clear hn
                      rcases ite_inv hr with ⟨hn, hq⟩ | ⟨hn, hq⟩
                      · clear hr; have hr := hq; clear hq; skip
                        try simp only [List.tail_cons] at hr
                        have HN6 := Aside0.mk hn
                        have HL3 := Aside0.mk (show r0.length ≤ 100000 by have := HL2.out; rw [List.length_cons] at this; omega)
                        clear hn
                        rcases andThen_inv hr with ⟨t8, m7, g8, h1, hr⟩ | ⟨m7, h1, rfl⟩
                        · have H7 := Aside0.mk h1
                          have HL4 := Aside0.mk (Nat.le_trans ((all_sh k).1 _ _ _ _ h1).1.length_le HL3.out)
                          clear h1
                          rcases mustS_inv hr with ⟨x8, m8, rfl, hn, hr⟩ | ⟨hn, rfl⟩
                          · have HN8 := Aside0.mk hn
                            have HL5 := Aside0.mk (show m8.length ≤ 100000 by have := HL4.out; rw [List.length_cons] at this; omega)
                            clear hn
                            obtain rfl := Option.some.inj hr
                            clear hr
                            go_enter Try.func126, Try.ntmps126
                            go_upto_region 4 with (fail)
                            obtain ⟨b1, hbb⟩ : ∃ b, b = w.heap.size := ⟨_, rfl⟩
                            obtain ⟨w1, hww⟩ : ∃ W : World, W = w.alloc (.cells #[.int .u8 x.f0, .string x.f1, .int .i64 x.f2, .int .i64 x.f3] 33 (0, 0)) := ⟨_, rfl⟩
                            have K1 := Aside0.mk (show Keeps w0 w w1 g _ size _ by rw [hww]; exact K0.out.alloc _)
                            have X1 := Aside0.mk (show w1.heap[b1]? = some (.cells #[.int .u8 x.f0, .string x.f1, .int .i64 x.f2, .int .i64 x.f3] 33 (0, 0)) by rw [hww, hbb]; exact blk_new _ _)
                            have Y1 := Aside0.mk (show g < b1 by rw [hbb]; exact K0.out.i.lt)
                            rw [← hww, ← hbb]
                            clear hww hbb
                            have hx0 : w1.cell? ⟨b1, 0, none⟩ = some (.int .u8 x.f0) := (blk_cell X1.out 0).trans rfl
                            have hx1 : w1.cell? ⟨b1, 1, none⟩ = some (.string x.f1) := (blk_cell X1.out 1).trans rfl
                            have hx2 : w1.cell? ⟨b1, 2, none⟩ = some (.int .i64 x.f2) := (blk_cell X1.out 2).trans rfl
                            clear hx1 hx2
                            go_wp2_with (first | (go_at_call 107; (with_reducible refine (ks_mine K1.out HN0.out).mono ?_); rintro e w2 ⟨rfl, hk⟩; have K2 := Aside0.mk hk.k; clear hk) | (go_at_call 99; (with_reducible refine (ks_has_f (⟨#[110, 111, 110, 101]⟩ : ByteArray) K2.out HN1.out).mono ?_); rintro e w' ⟨rfl, rfl⟩) | (go_at_call 99; (with_reducible refine (ks_has_f (⟨#[116, 114, 117, 101]⟩ : ByteArray) K2.out HN2.out).mono ?_); rintro e w' ⟨rfl, rfl⟩) | (go_at_call 99; (with_reducible refine (ks_has_f (⟨#[102, 97, 108, 115, 101]⟩ : ByteArray) K2.out HN3.out).mono ?_); rintro e w' ⟨rfl, rfl⟩) | (go_at_call 99; (with_reducible refine (ks_has_f (⟨#[118, 101, 114, 115, 105, 111, 110]⟩ : ByteArray) K2.out HN4.out).mono ?_); rintro e w' ⟨rfl, rfl⟩) | (go_at_call 99; (with_reducible refine (ks_has_f (⟨#[91]⟩ : ByteArray) K2.out HN5.out).mono ?_); rintro e w' ⟨rfl, rfl⟩) | (go_at_call 99; (with_reducible refine (ks_has_t (⟨#[40]⟩ : ByteArray) K2.out HN6.out).mono ?_); rintro e w3 ⟨rfl, hk⟩; have K3 := Aside0.mk hk.k; clear hk) | (go_at_call 57; (with_reducible refine (ks_call IHk.out.expr_ H7.out HL3.out K3.out).mono ?_); rintro e w4 ⟨A8, c8, rfl, ht, hk⟩; have K4 := Aside0.mk hk.k; have T8 := Aside0.mk ht; clear ht hk) | (go_at_call 84; (with_reducible refine (ks_must_t (⟨#[41]⟩ : ByteArray) K4.out HN8.out).mono ?_); rintro e w5 ⟨rfl, hk⟩; have K5 := Aside0.mk hk.k; replace T8 := Aside0.mk (T8.out.keep GL.out hk.b); clear hk))
                            go_ret
                            exact PostR.ok_ T8.out K5.out
                          · have HN8 := Aside0.mk hn
                            clear hn
                            go_enter Try.func126, Try.ntmps126
                            go_upto_region 4 with (fail)
                            obtain ⟨b1, hbb⟩ : ∃ b, b = w.heap.size := ⟨_, rfl⟩
                            obtain ⟨w1, hww⟩ : ∃ W : World, W = w.alloc (.cells #[.int .u8 x.f0, .string x.f1, .int .i64 x.f2, .int .i64 x.f3] 33 (0, 0)) := ⟨_, rfl⟩
                            have K1 := Aside0.mk (show Keeps w0 w w1 g _ size _ by rw [hww]; exact K0.out.alloc _)
                            have X1 := Aside0.mk (show w1.heap[b1]? = some (.cells #[.int .u8 x.f0, .string x.f1, .int .i64 x.f2, .int .i64 x.f3] 33 (0, 0)) by rw [hww, hbb]; exact blk_new _ _)
                            have Y1 := Aside0.mk (show g < b1 by rw [hbb]; exact K0.out.i.lt)
                            rw [← hww, ← hbb]
                            clear hww hbb
                            have hx0 : w1.cell? ⟨b1, 0, none⟩ = some (.int .u8 x.f0) := (blk_cell X1.out 0).trans rfl
                            have hx1 : w1.cell? ⟨b1, 1, none⟩ = some (.string x.f1) := (blk_cell X1.out 1).trans rfl
                            have hx2 : w1.cell? ⟨b1, 2, none⟩ = some (.int .i64 x.f2) := (blk_cell X1.out 2).trans rfl
                            clear hx1 hx2
                            go_wp2_with (first | (go_at_call 107; (with_reducible refine (ks_mine K1.out HN0.out).mono ?_); rintro e w2 ⟨rfl, hk⟩; have K2 := Aside0.mk hk.k; clear hk) | (go_at_call 99; (with_reducible refine (ks_has_f (⟨#[110, 111, 110, 101]⟩ : ByteArray) K2.out HN1.out).mono ?_); rintro e w' ⟨rfl, rfl⟩) | (go_at_call 99; (with_reducible refine (ks_has_f (⟨#[116, 114, 117, 101]⟩ : ByteArray) K2.out HN2.out).mono ?_); rintro e w' ⟨rfl, rfl⟩) | (go_at_call 99; (with_reducible refine (ks_has_f (⟨#[102, 97, 108, 115, 101]⟩ : ByteArray) K2.out HN3.out).mono ?_); rintro e w' ⟨rfl, rfl⟩) | (go_at_call 99; (with_reducible refine (ks_has_f (⟨#[118, 101, 114, 115, 105, 111, 110]⟩ : ByteArray) K2.out HN4.out).mono ?_); rintro e w' ⟨rfl, rfl⟩) | (go_at_call 99; (with_reducible refine (ks_has_f (⟨#[91]⟩ : ByteArray) K2.out HN5.out).mono ?_); rintro e w' ⟨rfl, rfl⟩) | (go_at_call 99; (with_reducible refine (ks_has_t (⟨#[40]⟩ : ByteArray) K2.out HN6.out).mono ?_); rintro e w3 ⟨rfl, hk⟩; have K3 := Aside0.mk hk.k; clear hk) | (go_at_call 57; (with_reducible refine (ks_call IHk.out.expr_ H7.out HL3.out K3.out).mono ?_); rintro e w4 ⟨A8, c8, rfl, ht, hk⟩; have K4 := Aside0.mk hk.k; have T8 := Aside0.mk ht; clear ht hk) | (go_at_call 84; (with_reducible refine (ks_must_f (⟨#[41]⟩ : ByteArray) K4.out HN8.out).mono ?_); rintro e w' ⟨rfl, hb⟩))
                            exact ⟨rfl, rfl, hb⟩
                        · have H7 := Aside0.mk h1
                          clear h1
                          go_enter Try.func126, Try.ntmps126
                          go_upto_region 4 with (fail)
                          obtain ⟨b1, hbb⟩ : ∃ b, b = w.heap.size := ⟨_, rfl⟩
                          obtain ⟨w1, hww⟩ : ∃ W : World, W = w.alloc (.cells #[.int .u8 x.f0, .string x.f1, .int .i64 x.f2, .int .i64 x.f3] 33 (0, 0)) := ⟨_, rfl⟩
                          have K1 := Aside0.mk (show Keeps w0 w w1 g _ size _ by rw [hww]; exact K0.out.alloc _)
                          have X1 := Aside0.mk (show w1.heap[b1]? = some (.cells #[.int .u8 x.f0, .string x.f1, .int .i64 x.f2, .int .i64 x.f3] 33 (0, 0)) by rw [hww, hbb]; exact blk_new _ _)
                          have Y1 := Aside0.mk (show g < b1 by rw [hbb]; exact K0.out.i.lt)
                          rw [← hww, ← hbb]
                          clear hww hbb
                          have hx0 : w1.cell? ⟨b1, 0, none⟩ = some (.int .u8 x.f0) := (blk_cell X1.out 0).trans rfl
                          have hx1 : w1.cell? ⟨b1, 1, none⟩ = some (.string x.f1) := (blk_cell X1.out 1).trans rfl
                          have hx2 : w1.cell? ⟨b1, 2, none⟩ = some (.int .i64 x.f2) := (blk_cell X1.out 2).trans rfl
                          clear hx1 hx2
                          go_wp2_with (first | (go_at_call 107; (with_reducible refine (ks_mine K1.out HN0.out).mono ?_); rintro e w2 ⟨rfl, hk⟩; have K2 := Aside0.mk hk.k; clear hk) | (go_at_call 99; (with_reducible refine (ks_has_f (⟨#[110, 111, 110, 101]⟩ : ByteArray) K2.out HN1.out).mono ?_); rintro e w' ⟨rfl, rfl⟩) | (go_at_call 99; (with_reducible refine (ks_has_f (⟨#[116, 114, 117, 101]⟩ : ByteArray) K2.out HN2.out).mono ?_); rintro e w' ⟨rfl, rfl⟩) | (go_at_call 99; (with_reducible refine (ks_has_f (⟨#[102, 97, 108, 115, 101]⟩ : ByteArray) K2.out HN3.out).mono ?_); rintro e w' ⟨rfl, rfl⟩) | (go_at_call 99; (with_reducible refine (ks_has_f (⟨#[118, 101, 114, 115, 105, 111, 110]⟩ : ByteArray) K2.out HN4.out).mono ?_); rintro e w' ⟨rfl, rfl⟩) | (go_at_call 99; (with_reducible refine (ks_has_f (⟨#[91]⟩ : ByteArray) K2.out HN5.out).mono ?_); rintro e w' ⟨rfl, rfl⟩) | (go_at_call 99; (with_reducible refine (ks_has_t (⟨#[40]⟩ : ByteArray) K2.out HN6.out).mono ?_); rintro e w3 ⟨rfl, hk⟩; have K3 := Aside0.mk hk.k; clear hk) | (go_at_call 57; (with_reducible refine (ks_call_bad IHk.out.expr_ H7.out HL3.out K3.out).mono ?_); rintro e w' ⟨rfl, hb⟩))
                          exact ⟨rfl, rfl, hb⟩
                      · clear hr; have hr := hq; clear hq; have HN6 := Aside0.mk (Bool.eq_false_iff.2 hn)
                        clear hn
                        rcases ite_inv hr with ⟨hn, hq⟩ | ⟨hn, hq⟩
                        · clear hr; have hr := hq; clear hq; skip
                          try simp only [List.tail_cons] at hr
                          have HN7 := Aside0.mk hn
                          have HL3 := Aside0.mk (show r0.length ≤ 100000 by have := HL2.out; rw [List.length_cons] at this; omega)
                          clear hn
                          have H8 := Aside0.mk hr
                          clear hr
                          cases r with
                          | ok t90 m90 g90 =>
                            go_enter Try.func126, Try.ntmps126
                            go_upto_region 4 with (fail)
                            obtain ⟨b1, hbb⟩ : ∃ b, b = w.heap.size := ⟨_, rfl⟩
                            obtain ⟨w1, hww⟩ : ∃ W : World, W = w.alloc (.cells #[.int .u8 x.f0, .string x.f1, .int .i64 x.f2, .int .i64 x.f3] 33 (0, 0)) := ⟨_, rfl⟩
                            have K1 := Aside0.mk (show Keeps w0 w w1 g _ size _ by rw [hww]; exact K0.out.alloc _)
                            have X1 := Aside0.mk (show w1.heap[b1]? = some (.cells #[.int .u8 x.f0, .string x.f1, .int .i64 x.f2, .int .i64 x.f3] 33 (0, 0)) by rw [hww, hbb]; exact blk_new _ _)
                            have Y1 := Aside0.mk (show g < b1 by rw [hbb]; exact K0.out.i.lt)
                            rw [← hww, ← hbb]
                            clear hww hbb
                            have hx0 : w1.cell? ⟨b1, 0, none⟩ = some (.int .u8 x.f0) := (blk_cell X1.out 0).trans rfl
                            have hx1 : w1.cell? ⟨b1, 1, none⟩ = some (.string x.f1) := (blk_cell X1.out 1).trans rfl
                            have hx2 : w1.cell? ⟨b1, 2, none⟩ = some (.int .i64 x.f2) := (blk_cell X1.out 2).trans rfl
                            clear hx1 hx2
                            go_wp2_with (first | (go_at_call 107; (with_reducible refine (ks_mine K1.out HN0.out).mono ?_); rintro e w2 ⟨rfl, hk⟩; have K2 := Aside0.mk hk.k; clear hk) | (go_at_call 99; (with_reducible refine (ks_has_f (⟨#[110, 111, 110, 101]⟩ : ByteArray) K2.out HN1.out).mono ?_); rintro e w' ⟨rfl, rfl⟩) | (go_at_call 99; (with_reducible refine (ks_has_f (⟨#[116, 114, 117, 101]⟩ : ByteArray) K2.out HN2.out).mono ?_); rintro e w' ⟨rfl, rfl⟩) | (go_at_call 99; (with_reducible refine (ks_has_f (⟨#[102, 97, 108, 115, 101]⟩ : ByteArray) K2.out HN3.out).mono ?_); rintro e w' ⟨rfl, rfl⟩) | (go_at_call 99; (with_reducible refine (ks_has_f (⟨#[118, 101, 114, 115, 105, 111, 110]⟩ : ByteArray) K2.out HN4.out).mono ?_); rintro e w' ⟨rfl, rfl⟩) | (go_at_call 99; (with_reducible refine (ks_has_f (⟨#[91]⟩ : ByteArray) K2.out HN5.out).mono ?_); rintro e w' ⟨rfl, rfl⟩) | (go_at_call 99; (with_reducible refine (ks_has_f (⟨#[40]⟩ : ByteArray) K2.out HN6.out).mono ?_); rintro e w' ⟨rfl, rfl⟩) | (go_at_call 99; (with_reducible refine (ks_has_t (⟨#[108, 101, 110]⟩ : ByteArray) K2.out HN7.out).mono ?_); rintro e w3 ⟨rfl, hk⟩; have K3 := Aside0.mk hk.k; clear hk) | (go_at_call 127; (with_reducible refine (ks_one IHm.out 45 H8.out HL3.out K3.out).mono ?_); rintro e w4 ⟨A90, c90, rfl, ht, hk⟩; have T90 := Aside0.mk ht; have K4 := Aside0.mk hk.k; clear ht hk))
                            go_ret
                            exact PostR.ok_ T90.out K4.out
                          | bad m90 =>
                            go_enter Try.func126, Try.ntmps126
                            go_upto_region 4 with (fail)
                            obtain ⟨b1, hbb⟩ : ∃ b, b = w.heap.size := ⟨_, rfl⟩
                            obtain ⟨w1, hww⟩ : ∃ W : World, W = w.alloc (.cells #[.int .u8 x.f0, .string x.f1, .int .i64 x.f2, .int .i64 x.f3] 33 (0, 0)) := ⟨_, rfl⟩
                            have K1 := Aside0.mk (show Keeps w0 w w1 g _ size _ by rw [hww]; exact K0.out.alloc _)
                            have X1 := Aside0.mk (show w1.heap[b1]? = some (.cells #[.int .u8 x.f0, .string x.f1, .int .i64 x.f2, .int .i64 x.f3] 33 (0, 0)) by rw [hww, hbb]; exact blk_new _ _)
                            have Y1 := Aside0.mk (show g < b1 by rw [hbb]; exact K0.out.i.lt)
                            rw [← hww, ← hbb]
                            clear hww hbb
                            have hx0 : w1.cell? ⟨b1, 0, none⟩ = some (.int .u8 x.f0) := (blk_cell X1.out 0).trans rfl
                            have hx1 : w1.cell? ⟨b1, 1, none⟩ = some (.string x.f1) := (blk_cell X1.out 1).trans rfl
                            have hx2 : w1.cell? ⟨b1, 2, none⟩ = some (.int .i64 x.f2) := (blk_cell X1.out 2).trans rfl
                            clear hx1 hx2
                            go_wp2_with (first | (go_at_call 107; (with_reducible refine (ks_mine K1.out HN0.out).mono ?_); rintro e w2 ⟨rfl, hk⟩; have K2 := Aside0.mk hk.k; clear hk) | (go_at_call 99; (with_reducible refine (ks_has_f (⟨#[110, 111, 110, 101]⟩ : ByteArray) K2.out HN1.out).mono ?_); rintro e w' ⟨rfl, rfl⟩) | (go_at_call 99; (with_reducible refine (ks_has_f (⟨#[116, 114, 117, 101]⟩ : ByteArray) K2.out HN2.out).mono ?_); rintro e w' ⟨rfl, rfl⟩) | (go_at_call 99; (with_reducible refine (ks_has_f (⟨#[102, 97, 108, 115, 101]⟩ : ByteArray) K2.out HN3.out).mono ?_); rintro e w' ⟨rfl, rfl⟩) | (go_at_call 99; (with_reducible refine (ks_has_f (⟨#[118, 101, 114, 115, 105, 111, 110]⟩ : ByteArray) K2.out HN4.out).mono ?_); rintro e w' ⟨rfl, rfl⟩) | (go_at_call 99; (with_reducible refine (ks_has_f (⟨#[91]⟩ : ByteArray) K2.out HN5.out).mono ?_); rintro e w' ⟨rfl, rfl⟩) | (go_at_call 99; (with_reducible refine (ks_has_f (⟨#[40]⟩ : ByteArray) K2.out HN6.out).mono ?_); rintro e w' ⟨rfl, rfl⟩) | (go_at_call 99; (with_reducible refine (ks_has_t (⟨#[108, 101, 110]⟩ : ByteArray) K2.out HN7.out).mono ?_); rintro e w3 ⟨rfl, hk⟩; have K3 := Aside0.mk hk.k; clear hk) | (go_at_call 127; (with_reducible refine (ks_one_bad IHm.out 45 H8.out HL3.out K3.out).mono ?_); rintro e w' ⟨rfl, hb⟩))
                            exact ⟨rfl, rfl, hb⟩
                        · clear hr; have hr := hq; clear hq; have HN7 := Aside0.mk (Bool.eq_false_iff.2 hn)
                          clear hn
                          rcases ite_inv hr with ⟨hn, hq⟩ | ⟨hn, hq⟩
                          · clear hr; have hr := hq; clear hq; skip
                            try simp only [List.tail_cons] at hr
                            have HN8 := Aside0.mk hn
                            have HL3 := Aside0.mk (show r0.length ≤ 100000 by have := HL2.out; rw [List.length_cons] at this; omega)
                            clear hn
                            have H9 := Aside0.mk hr
                            clear hr
                            cases r with
                            | ok t90 m90 g90 =>
                              go_enter Try.func126, Try.ntmps126
                              go_upto_region 4 with (fail)
                              obtain ⟨b1, hbb⟩ : ∃ b, b = w.heap.size := ⟨_, rfl⟩
                              obtain ⟨w1, hww⟩ : ∃ W : World, W = w.alloc (.cells #[.int .u8 x.f0, .string x.f1, .int .i64 x.f2, .int .i64 x.f3] 33 (0, 0)) := ⟨_, rfl⟩
                              have K1 := Aside0.mk (show Keeps w0 w w1 g _ size _ by rw [hww]; exact K0.out.alloc _)
                              have X1 := Aside0.mk (show w1.heap[b1]? = some (.cells #[.int .u8 x.f0, .string x.f1, .int .i64 x.f2, .int .i64 x.f3] 33 (0, 0)) by rw [hww, hbb]; exact blk_new _ _)
                              have Y1 := Aside0.mk (show g < b1 by rw [hbb]; exact K0.out.i.lt)
                              rw [← hww, ← hbb]
                              clear hww hbb
                              have hx0 : w1.cell? ⟨b1, 0, none⟩ = some (.int .u8 x.f0) := (blk_cell X1.out 0).trans rfl
                              have hx1 : w1.cell? ⟨b1, 1, none⟩ = some (.string x.f1) := (blk_cell X1.out 1).trans rfl
                              have hx2 : w1.cell? ⟨b1, 2, none⟩ = some (.int .i64 x.f2) := (blk_cell X1.out 2).trans rfl
                              clear hx1 hx2
                              go_wp2_with (first | (go_at_call 107; (with_reducible refine (ks_mine K1.out HN0.out).mono ?_); rintro e w2 ⟨rfl, hk⟩; have K2 := Aside0.mk hk.k; clear hk) | (go_at_call 99; (with_reducible refine (ks_has_f (⟨#[110, 111, 110, 101]⟩ : ByteArray) K2.out HN1.out).mono ?_); rintro e w' ⟨rfl, rfl⟩) | (go_at_call 99; (with_reducible refine (ks_has_f (⟨#[116, 114, 117, 101]⟩ : ByteArray) K2.out HN2.out).mono ?_); rintro e w' ⟨rfl, rfl⟩) | (go_at_call 99; (with_reducible refine (ks_has_f (⟨#[102, 97, 108, 115, 101]⟩ : ByteArray) K2.out HN3.out).mono ?_); rintro e w' ⟨rfl, rfl⟩) | (go_at_call 99; (with_reducible refine (ks_has_f (⟨#[118, 101, 114, 115, 105, 111, 110]⟩ : ByteArray) K2.out HN4.out).mono ?_); rintro e w' ⟨rfl, rfl⟩) | (go_at_call 99; (with_reducible refine (ks_has_f (⟨#[91]⟩ : ByteArray) K2.out HN5.out).mono ?_); rintro e w' ⟨rfl, rfl⟩) | (go_at_call 99; (with_reducible refine (ks_has_f (⟨#[40]⟩ : ByteArray) K2.out HN6.out).mono ?_); rintro e w' ⟨rfl, rfl⟩) | (go_at_call 99; (with_reducible refine (ks_has_f (⟨#[108, 101, 110]⟩ : ByteArray) K2.out HN7.out).mono ?_); rintro e w' ⟨rfl, rfl⟩) | (go_at_call 99; (with_reducible refine (ks_has_t (⟨#[114, 101]⟩ : ByteArray) K2.out HN8.out).mono ?_); rintro e w3 ⟨rfl, hk⟩; have K3 := Aside0.mk hk.k; clear hk) | (go_at_call 127; (with_reducible refine (ks_one IHm.out 46 H9.out HL3.out K3.out).mono ?_); rintro e w4 ⟨A90, c90, rfl, ht, hk⟩; have T90 := Aside0.mk ht; have K4 := Aside0.mk hk.k; clear ht hk))
                              go_ret
                              exact PostR.ok_ T90.out K4.out
                            | bad m90 =>
                              go_enter Try.func126, Try.ntmps126
                              go_upto_region 4 with (fail)
                              obtain ⟨b1, hbb⟩ : ∃ b, b = w.heap.size := ⟨_, rfl⟩
                              obtain ⟨w1, hww⟩ : ∃ W : World, W = w.alloc (.cells #[.int .u8 x.f0, .string x.f1, .int .i64 x.f2, .int .i64 x.f3] 33 (0, 0)) := ⟨_, rfl⟩
                              have K1 := Aside0.mk (show Keeps w0 w w1 g _ size _ by rw [hww]; exact K0.out.alloc _)
                              have X1 := Aside0.mk (show w1.heap[b1]? = some (.cells #[.int .u8 x.f0, .string x.f1, .int .i64 x.f2, .int .i64 x.f3] 33 (0, 0)) by rw [hww, hbb]; exact blk_new _ _)
                              have Y1 := Aside0.mk (show g < b1 by rw [hbb]; exact K0.out.i.lt)
                              rw [← hww, ← hbb]
                              clear hww hbb
                              have hx0 : w1.cell? ⟨b1, 0, none⟩ = some (.int .u8 x.f0) := (blk_cell X1.out 0).trans rfl
                              have hx1 : w1.cell? ⟨b1, 1, none⟩ = some (.string x.f1) := (blk_cell X1.out 1).trans rfl
                              have hx2 : w1.cell? ⟨b1, 2, none⟩ = some (.int .i64 x.f2) := (blk_cell X1.out 2).trans rfl
                              clear hx1 hx2
                              go_wp2_with (first | (go_at_call 107; (with_reducible refine (ks_mine K1.out HN0.out).mono ?_); rintro e w2 ⟨rfl, hk⟩; have K2 := Aside0.mk hk.k; clear hk) | (go_at_call 99; (with_reducible refine (ks_has_f (⟨#[110, 111, 110, 101]⟩ : ByteArray) K2.out HN1.out).mono ?_); rintro e w' ⟨rfl, rfl⟩) | (go_at_call 99; (with_reducible refine (ks_has_f (⟨#[116, 114, 117, 101]⟩ : ByteArray) K2.out HN2.out).mono ?_); rintro e w' ⟨rfl, rfl⟩) | (go_at_call 99; (with_reducible refine (ks_has_f (⟨#[102, 97, 108, 115, 101]⟩ : ByteArray) K2.out HN3.out).mono ?_); rintro e w' ⟨rfl, rfl⟩) | (go_at_call 99; (with_reducible refine (ks_has_f (⟨#[118, 101, 114, 115, 105, 111, 110]⟩ : ByteArray) K2.out HN4.out).mono ?_); rintro e w' ⟨rfl, rfl⟩) | (go_at_call 99; (with_reducible refine (ks_has_f (⟨#[91]⟩ : ByteArray) K2.out HN5.out).mono ?_); rintro e w' ⟨rfl, rfl⟩) | (go_at_call 99; (with_reducible refine (ks_has_f (⟨#[40]⟩ : ByteArray) K2.out HN6.out).mono ?_); rintro e w' ⟨rfl, rfl⟩) | (go_at_call 99; (with_reducible refine (ks_has_f (⟨#[108, 101, 110]⟩ : ByteArray) K2.out HN7.out).mono ?_); rintro e w' ⟨rfl, rfl⟩) | (go_at_call 99; (with_reducible refine (ks_has_t (⟨#[114, 101]⟩ : ByteArray) K2.out HN8.out).mono ?_); rintro e w3 ⟨rfl, hk⟩; have K3 := Aside0.mk hk.k; clear hk) | (go_at_call 127; (with_reducible refine (ks_one_bad IHm.out 46 H9.out HL3.out K3.out).mono ?_); rintro e w' ⟨rfl, hb⟩))
                              exact ⟨rfl, rfl, hb⟩
                          · clear hr; have hr := hq; clear hq; have HN8 := Aside0.mk (Bool.eq_false_iff.2 hn)
                            clear hn
                            rcases ite_inv hr with ⟨hn, hq⟩ | ⟨hn, hq⟩
                            · clear hr; have hr := hq; clear hq; skip
                              try simp only [List.tail_cons] at hr
                              have HN9 := Aside0.mk hn
                              have HL3 := Aside0.mk (show r0.length ≤ 100000 by have := HL2.out; rw [List.length_cons] at this; omega)
                              clear hn
                              have H10 := Aside0.mk hr
                              clear hr
                              cases r with
                              | ok t90 m90 g90 =>
                                go_enter Try.func126, Try.ntmps126
                                go_upto_region 4 with (fail)
                                obtain ⟨b1, hbb⟩ : ∃ b, b = w.heap.size := ⟨_, rfl⟩
                                obtain ⟨w1, hww⟩ : ∃ W : World, W = w.alloc (.cells #[.int .u8 x.f0, .string x.f1, .int .i64 x.f2, .int .i64 x.f3] 33 (0, 0)) := ⟨_, rfl⟩
                                have K1 := Aside0.mk (show Keeps w0 w w1 g _ size _ by rw [hww]; exact K0.out.alloc _)
                                have X1 := Aside0.mk (show w1.heap[b1]? = some (.cells #[.int .u8 x.f0, .string x.f1, .int .i64 x.f2, .int .i64 x.f3] 33 (0, 0)) by rw [hww, hbb]; exact blk_new _ _)
                                have Y1 := Aside0.mk (show g < b1 by rw [hbb]; exact K0.out.i.lt)
                                rw [← hww, ← hbb]
                                clear hww hbb
                                have hx0 : w1.cell? ⟨b1, 0, none⟩ = some (.int .u8 x.f0) := (blk_cell X1.out 0).trans rfl
                                have hx1 : w1.cell? ⟨b1, 1, none⟩ = some (.string x.f1) := (blk_cell X1.out 1).trans rfl
                                have hx2 : w1.cell? ⟨b1, 2, none⟩ = some (.int .i64 x.f2) := (blk_cell X1.out 2).trans rfl
                                clear hx1 hx2
                                go_wp2_with (first | (go_at_call 107; (with_reducible refine (ks_mine K1.out HN0.out).mono ?_); rintro e w2 ⟨rfl, hk⟩; have K2 := Aside0.mk hk.k; clear hk) | (go_at_call 99; (with_reducible refine (ks_has_f (⟨#[110, 111, 110, 101]⟩ : ByteArray) K2.out HN1.out).mono ?_); rintro e w' ⟨rfl, rfl⟩) | (go_at_call 99; (with_reducible refine (ks_has_f (⟨#[116, 114, 117, 101]⟩ : ByteArray) K2.out HN2.out).mono ?_); rintro e w' ⟨rfl, rfl⟩) | (go_at_call 99; (with_reducible refine (ks_has_f (⟨#[102, 97, 108, 115, 101]⟩ : ByteArray) K2.out HN3.out).mono ?_); rintro e w' ⟨rfl, rfl⟩) | (go_at_call 99; (with_reducible refine (ks_has_f (⟨#[118, 101, 114, 115, 105, 111, 110]⟩ : ByteArray) K2.out HN4.out).mono ?_); rintro e w' ⟨rfl, rfl⟩) | (go_at_call 99; (with_reducible refine (ks_has_f (⟨#[91]⟩ : ByteArray) K2.out HN5.out).mono ?_); rintro e w' ⟨rfl, rfl⟩) | (go_at_call 99; (with_reducible refine (ks_has_f (⟨#[40]⟩ : ByteArray) K2.out HN6.out).mono ?_); rintro e w' ⟨rfl, rfl⟩) | (go_at_call 99; (with_reducible refine (ks_has_f (⟨#[108, 101, 110]⟩ : ByteArray) K2.out HN7.out).mono ?_); rintro e w' ⟨rfl, rfl⟩) | (go_at_call 99; (with_reducible refine (ks_has_f (⟨#[114, 101]⟩ : ByteArray) K2.out HN8.out).mono ?_); rintro e w' ⟨rfl, rfl⟩) | (go_at_call 99; (with_reducible refine (ks_has_t (⟨#[105, 109]⟩ : ByteArray) K2.out HN9.out).mono ?_); rintro e w3 ⟨rfl, hk⟩; have K3 := Aside0.mk hk.k; clear hk) | (go_at_call 127; (with_reducible refine (ks_one IHm.out 47 H10.out HL3.out K3.out).mono ?_); rintro e w4 ⟨A90, c90, rfl, ht, hk⟩; have T90 := Aside0.mk ht; have K4 := Aside0.mk hk.k; clear ht hk))
                                go_ret
                                exact PostR.ok_ T90.out K4.out
                              | bad m90 =>
                                go_enter Try.func126, Try.ntmps126
                                go_upto_region 4 with (fail)
                                obtain ⟨b1, hbb⟩ : ∃ b, b = w.heap.size := ⟨_, rfl⟩
                                obtain ⟨w1, hww⟩ : ∃ W : World, W = w.alloc (.cells #[.int .u8 x.f0, .string x.f1, .int .i64 x.f2, .int .i64 x.f3] 33 (0, 0)) := ⟨_, rfl⟩
                                have K1 := Aside0.mk (show Keeps w0 w w1 g _ size _ by rw [hww]; exact K0.out.alloc _)
                                have X1 := Aside0.mk (show w1.heap[b1]? = some (.cells #[.int .u8 x.f0, .string x.f1, .int .i64 x.f2, .int .i64 x.f3] 33 (0, 0)) by rw [hww, hbb]; exact blk_new _ _)
                                have Y1 := Aside0.mk (show g < b1 by rw [hbb]; exact K0.out.i.lt)
                                rw [← hww, ← hbb]
                                clear hww hbb
                                have hx0 : w1.cell? ⟨b1, 0, none⟩ = some (.int .u8 x.f0) := (blk_cell X1.out 0).trans rfl
                                have hx1 : w1.cell? ⟨b1, 1, none⟩ = some (.string x.f1) := (blk_cell X1.out 1).trans rfl
                                have hx2 : w1.cell? ⟨b1, 2, none⟩ = some (.int .i64 x.f2) := (blk_cell X1.out 2).trans rfl
                                clear hx1 hx2
                                go_wp2_with (first | (go_at_call 107; (with_reducible refine (ks_mine K1.out HN0.out).mono ?_); rintro e w2 ⟨rfl, hk⟩; have K2 := Aside0.mk hk.k; clear hk) | (go_at_call 99; (with_reducible refine (ks_has_f (⟨#[110, 111, 110, 101]⟩ : ByteArray) K2.out HN1.out).mono ?_); rintro e w' ⟨rfl, rfl⟩) | (go_at_call 99; (with_reducible refine (ks_has_f (⟨#[116, 114, 117, 101]⟩ : ByteArray) K2.out HN2.out).mono ?_); rintro e w' ⟨rfl, rfl⟩) | (go_at_call 99; (with_reducible refine (ks_has_f (⟨#[102, 97, 108, 115, 101]⟩ : ByteArray) K2.out HN3.out).mono ?_); rintro e w' ⟨rfl, rfl⟩) | (go_at_call 99; (with_reducible refine (ks_has_f (⟨#[118, 101, 114, 115, 105, 111, 110]⟩ : ByteArray) K2.out HN4.out).mono ?_); rintro e w' ⟨rfl, rfl⟩) | (go_at_call 99; (with_reducible refine (ks_has_f (⟨#[91]⟩ : ByteArray) K2.out HN5.out).mono ?_); rintro e w' ⟨rfl, rfl⟩) | (go_at_call 99; (with_reducible refine (ks_has_f (⟨#[40]⟩ : ByteArray) K2.out HN6.out).mono ?_); rintro e w' ⟨rfl, rfl⟩) | (go_at_call 99; (with_reducible refine (ks_has_f (⟨#[108, 101, 110]⟩ : ByteArray) K2.out HN7.out).mono ?_); rintro e w' ⟨rfl, rfl⟩) | (go_at_call 99; (with_reducible refine (ks_has_f (⟨#[114, 101]⟩ : ByteArray) K2.out HN8.out).mono ?_); rintro e w' ⟨rfl, rfl⟩) | (go_at_call 99; (with_reducible refine (ks_has_t (⟨#[105, 109]⟩ : ByteArray) K2.out HN9.out).mono ?_); rintro e w3 ⟨rfl, hk⟩; have K3 := Aside0.mk hk.k; clear hk) | (go_at_call 127; (with_reducible refine (ks_one_bad IHm.out 47 H10.out HL3.out K3.out).mono ?_); rintro e w' ⟨rfl, hb⟩))
                                exact ⟨rfl, rfl, hb⟩
                            · clear hr; have hr := hq; clear hq; have HN9 := Aside0.mk (Bool.eq_false_iff.2 hn)
                              clear hn
                              rcases ite_inv hr with ⟨hn, hq⟩ | ⟨hn, hq⟩
                              · clear hr; have hr := hq; clear hq; skip
                                try simp only [List.tail_cons] at hr
                                have HN10 := Aside0.mk hn
                                have HL3 := Aside0.mk (show r0.length ≤ 100000 by have := HL2.out; rw [List.length_cons] at this; omega)
                                clear hn
                                have H11 := Aside0.mk hr
                                clear hr
                                cases r with
                                | ok t90 m90 g90 =>
                                  go_enter Try.func126, Try.ntmps126
                                  go_upto_region 4 with (fail)
                                  obtain ⟨b1, hbb⟩ : ∃ b, b = w.heap.size := ⟨_, rfl⟩
                                  obtain ⟨w1, hww⟩ : ∃ W : World, W = w.alloc (.cells #[.int .u8 x.f0, .string x.f1, .int .i64 x.f2, .int .i64 x.f3] 33 (0, 0)) := ⟨_, rfl⟩
                                  have K1 := Aside0.mk (show Keeps w0 w w1 g _ size _ by rw [hww]; exact K0.out.alloc _)
                                  have X1 := Aside0.mk (show w1.heap[b1]? = some (.cells #[.int .u8 x.f0, .string x.f1, .int .i64 x.f2, .int .i64 x.f3] 33 (0, 0)) by rw [hww, hbb]; exact blk_new _ _)
                                  have Y1 := Aside0.mk (show g < b1 by rw [hbb]; exact K0.out.i.lt)
                                  rw [← hww, ← hbb]
                                  clear hww hbb
                                  have hx0 : w1.cell? ⟨b1, 0, none⟩ = some (.int .u8 x.f0) := (blk_cell X1.out 0).trans rfl
                                  have hx1 : w1.cell? ⟨b1, 1, none⟩ = some (.string x.f1) := (blk_cell X1.out 1).trans rfl
                                  have hx2 : w1.cell? ⟨b1, 2, none⟩ = some (.int .i64 x.f2) := (blk_cell X1.out 2).trans rfl
                                  clear hx1 hx2
                                  go_wp2_with (first | (go_at_call 107; (with_reducible refine (ks_mine K1.out HN0.out).mono ?_); rintro e w2 ⟨rfl, hk⟩; have K2 := Aside0.mk hk.k; clear hk) | (go_at_call 99; (with_reducible refine (ks_has_f (⟨#[110, 111, 110, 101]⟩ : ByteArray) K2.out HN1.out).mono ?_); rintro e w' ⟨rfl, rfl⟩) | (go_at_call 99; (with_reducible refine (ks_has_f (⟨#[116, 114, 117, 101]⟩ : ByteArray) K2.out HN2.out).mono ?_); rintro e w' ⟨rfl, rfl⟩) | (go_at_call 99; (with_reducible refine (ks_has_f (⟨#[102, 97, 108, 115, 101]⟩ : ByteArray) K2.out HN3.out).mono ?_); rintro e w' ⟨rfl, rfl⟩) | (go_at_call 99; (with_reducible refine (ks_has_f (⟨#[118, 101, 114, 115, 105, 111, 110]⟩ : ByteArray) K2.out HN4.out).mono ?_); rintro e w' ⟨rfl, rfl⟩) | (go_at_call 99; (with_reducible refine (ks_has_f (⟨#[91]⟩ : ByteArray) K2.out HN5.out).mono ?_); rintro e w' ⟨rfl, rfl⟩) | (go_at_call 99; (with_reducible refine (ks_has_f (⟨#[40]⟩ : ByteArray) K2.out HN6.out).mono ?_); rintro e w' ⟨rfl, rfl⟩) | (go_at_call 99; (with_reducible refine (ks_has_f (⟨#[108, 101, 110]⟩ : ByteArray) K2.out HN7.out).mono ?_); rintro e w' ⟨rfl, rfl⟩) | (go_at_call 99; (with_reducible refine (ks_has_f (⟨#[114, 101]⟩ : ByteArray) K2.out HN8.out).mono ?_); rintro e w' ⟨rfl, rfl⟩) | (go_at_call 99; (with_reducible refine (ks_has_f (⟨#[105, 109]⟩ : ByteArray) K2.out HN9.out).mono ?_); rintro e w' ⟨rfl, rfl⟩) | (go_at_call 99; (with_reducible refine (ks_has_t (⟨#[99, 111, 110, 106]⟩ : ByteArray) K2.out HN10.out).mono ?_); rintro e w3 ⟨rfl, hk⟩; have K3 := Aside0.mk hk.k; clear hk) | (go_at_call 127; (with_reducible refine (ks_one IHm.out 48 H11.out HL3.out K3.out).mono ?_); rintro e w4 ⟨A90, c90, rfl, ht, hk⟩; have T90 := Aside0.mk ht; have K4 := Aside0.mk hk.k; clear ht hk))
                                  go_ret
                                  exact PostR.ok_ T90.out K4.out
                                | bad m90 =>
                                  go_enter Try.func126, Try.ntmps126
                                  go_upto_region 4 with (fail)
                                  obtain ⟨b1, hbb⟩ : ∃ b, b = w.heap.size := ⟨_, rfl⟩
                                  obtain ⟨w1, hww⟩ : ∃ W : World, W = w.alloc (.cells #[.int .u8 x.f0, .string x.f1, .int .i64 x.f2, .int .i64 x.f3] 33 (0, 0)) := ⟨_, rfl⟩
                                  have K1 := Aside0.mk (show Keeps w0 w w1 g _ size _ by rw [hww]; exact K0.out.alloc _)
                                  have X1 := Aside0.mk (show w1.heap[b1]? = some (.cells #[.int .u8 x.f0, .string x.f1, .int .i64 x.f2, .int .i64 x.f3] 33 (0, 0)) by rw [hww, hbb]; exact blk_new _ _)
                                  have Y1 := Aside0.mk (show g < b1 by rw [hbb]; exact K0.out.i.lt)
                                  rw [← hww, ← hbb]
                                  clear hww hbb
                                  have hx0 : w1.cell? ⟨b1, 0, none⟩ = some (.int .u8 x.f0) := (blk_cell X1.out 0).trans rfl
                                  have hx1 : w1.cell? ⟨b1, 1, none⟩ = some (.string x.f1) := (blk_cell X1.out 1).trans rfl
                                  have hx2 : w1.cell? ⟨b1, 2, none⟩ = some (.int .i64 x.f2) := (blk_cell X1.out 2).trans rfl
                                  clear hx1 hx2
                                  go_wp2_with (first | (go_at_call 107; (with_reducible refine (ks_mine K1.out HN0.out).mono ?_); rintro e w2 ⟨rfl, hk⟩; have K2 := Aside0.mk hk.k; clear hk) | (go_at_call 99; (with_reducible refine (ks_has_f (⟨#[110, 111, 110, 101]⟩ : ByteArray) K2.out HN1.out).mono ?_); rintro e w' ⟨rfl, rfl⟩) | (go_at_call 99; (with_reducible refine (ks_has_f (⟨#[116, 114, 117, 101]⟩ : ByteArray) K2.out HN2.out).mono ?_); rintro e w' ⟨rfl, rfl⟩) | (go_at_call 99; (with_reducible refine (ks_has_f (⟨#[102, 97, 108, 115, 101]⟩ : ByteArray) K2.out HN3.out).mono ?_); rintro e w' ⟨rfl, rfl⟩) | (go_at_call 99; (with_reducible refine (ks_has_f (⟨#[118, 101, 114, 115, 105, 111, 110]⟩ : ByteArray) K2.out HN4.out).mono ?_); rintro e w' ⟨rfl, rfl⟩) | (go_at_call 99; (with_reducible refine (ks_has_f (⟨#[91]⟩ : ByteArray) K2.out HN5.out).mono ?_); rintro e w' ⟨rfl, rfl⟩) | (go_at_call 99; (with_reducible refine (ks_has_f (⟨#[40]⟩ : ByteArray) K2.out HN6.out).mono ?_); rintro e w' ⟨rfl, rfl⟩) | (go_at_call 99; (with_reducible refine (ks_has_f (⟨#[108, 101, 110]⟩ : ByteArray) K2.out HN7.out).mono ?_); rintro e w' ⟨rfl, rfl⟩) | (go_at_call 99; (with_reducible refine (ks_has_f (⟨#[114, 101]⟩ : ByteArray) K2.out HN8.out).mono ?_); rintro e w' ⟨rfl, rfl⟩) | (go_at_call 99; (with_reducible refine (ks_has_f (⟨#[105, 109]⟩ : ByteArray) K2.out HN9.out).mono ?_); rintro e w' ⟨rfl, rfl⟩) | (go_at_call 99; (with_reducible refine (ks_has_t (⟨#[99, 111, 110, 106]⟩ : ByteArray) K2.out HN10.out).mono ?_); rintro e w3 ⟨rfl, hk⟩; have K3 := Aside0.mk hk.k; clear hk) | (go_at_call 127; (with_reducible refine (ks_one_bad IHm.out 48 H11.out HL3.out K3.out).mono ?_); rintro e w' ⟨rfl, hb⟩))
                                  exact ⟨rfl, rfl, hb⟩
                              · clear hr; have hr := hq; clear hq; have HN10 := Aside0.mk (Bool.eq_false_iff.2 hn)
                                clear hn
                                rcases ite_inv hr with ⟨hn, hq⟩ | ⟨hn, hq⟩
                                · clear hr; have hr := hq; clear hq; skip
                                  try simp only [List.tail_cons] at hr
                                  have HN11 := Aside0.mk hn
                                  have HL3 := Aside0.mk (show r0.length ≤ 100000 by have := HL2.out; rw [List.length_cons] at this; omega)
                                  clear hn
                                  have H12 := Aside0.mk hr
                                  clear hr
                                  cases r with
                                  | ok t90 m90 g90 =>
                                    go_enter Try.func126, Try.ntmps126
                                    go_upto_region 4 with (fail)
                                    obtain ⟨b1, hbb⟩ : ∃ b, b = w.heap.size := ⟨_, rfl⟩
                                    obtain ⟨w1, hww⟩ : ∃ W : World, W = w.alloc (.cells #[.int .u8 x.f0, .string x.f1, .int .i64 x.f2, .int .i64 x.f3] 33 (0, 0)) := ⟨_, rfl⟩
                                    have K1 := Aside0.mk (show Keeps w0 w w1 g _ size _ by rw [hww]; exact K0.out.alloc _)
                                    have X1 := Aside0.mk (show w1.heap[b1]? = some (.cells #[.int .u8 x.f0, .string x.f1, .int .i64 x.f2, .int .i64 x.f3] 33 (0, 0)) by rw [hww, hbb]; exact blk_new _ _)
                                    have Y1 := Aside0.mk (show g < b1 by rw [hbb]; exact K0.out.i.lt)
                                    rw [← hww, ← hbb]
                                    clear hww hbb
                                    have hx0 : w1.cell? ⟨b1, 0, none⟩ = some (.int .u8 x.f0) := (blk_cell X1.out 0).trans rfl
                                    have hx1 : w1.cell? ⟨b1, 1, none⟩ = some (.string x.f1) := (blk_cell X1.out 1).trans rfl
                                    have hx2 : w1.cell? ⟨b1, 2, none⟩ = some (.int .i64 x.f2) := (blk_cell X1.out 2).trans rfl
                                    clear hx1 hx2
                                    go_wp2_with (first | (go_at_call 107; (with_reducible refine (ks_mine K1.out HN0.out).mono ?_); rintro e w2 ⟨rfl, hk⟩; have K2 := Aside0.mk hk.k; clear hk) | (go_at_call 99; (with_reducible refine (ks_has_f (⟨#[110, 111, 110, 101]⟩ : ByteArray) K2.out HN1.out).mono ?_); rintro e w' ⟨rfl, rfl⟩) | (go_at_call 99; (with_reducible refine (ks_has_f (⟨#[116, 114, 117, 101]⟩ : ByteArray) K2.out HN2.out).mono ?_); rintro e w' ⟨rfl, rfl⟩) | (go_at_call 99; (with_reducible refine (ks_has_f (⟨#[102, 97, 108, 115, 101]⟩ : ByteArray) K2.out HN3.out).mono ?_); rintro e w' ⟨rfl, rfl⟩) | (go_at_call 99; (with_reducible refine (ks_has_f (⟨#[118, 101, 114, 115, 105, 111, 110]⟩ : ByteArray) K2.out HN4.out).mono ?_); rintro e w' ⟨rfl, rfl⟩) | (go_at_call 99; (with_reducible refine (ks_has_f (⟨#[91]⟩ : ByteArray) K2.out HN5.out).mono ?_); rintro e w' ⟨rfl, rfl⟩) | (go_at_call 99; (with_reducible refine (ks_has_f (⟨#[40]⟩ : ByteArray) K2.out HN6.out).mono ?_); rintro e w' ⟨rfl, rfl⟩) | (go_at_call 99; (with_reducible refine (ks_has_f (⟨#[108, 101, 110]⟩ : ByteArray) K2.out HN7.out).mono ?_); rintro e w' ⟨rfl, rfl⟩) | (go_at_call 99; (with_reducible refine (ks_has_f (⟨#[114, 101]⟩ : ByteArray) K2.out HN8.out).mono ?_); rintro e w' ⟨rfl, rfl⟩) | (go_at_call 99; (with_reducible refine (ks_has_f (⟨#[105, 109]⟩ : ByteArray) K2.out HN9.out).mono ?_); rintro e w' ⟨rfl, rfl⟩) | (go_at_call 99; (with_reducible refine (ks_has_f (⟨#[99, 111, 110, 106]⟩ : ByteArray) K2.out HN10.out).mono ?_); rintro e w' ⟨rfl, rfl⟩) | (go_at_call 99; (with_reducible refine (ks_has_t (⟨#[116, 105, 109, 101, 114]⟩ : ByteArray) K2.out HN11.out).mono ?_); rintro e w3 ⟨rfl, hk⟩; have K3 := Aside0.mk hk.k; clear hk) | (go_at_call 127; (with_reducible refine (ks_one IHm.out 52 H12.out HL3.out K3.out).mono ?_); rintro e w4 ⟨A90, c90, rfl, ht, hk⟩; have T90 := Aside0.mk ht; have K4 := Aside0.mk hk.k; clear ht hk))
                                    go_ret
                                    exact PostR.ok_ T90.out K4.out
                                  | bad m90 =>
                                    go_enter Try.func126, Try.ntmps126
                                    go_upto_region 4 with (fail)
                                    obtain ⟨b1, hbb⟩ : ∃ b, b = w.heap.size := ⟨_, rfl⟩
                                    obtain ⟨w1, hww⟩ : ∃ W : World, W = w.alloc (.cells #[.int .u8 x.f0, .string x.f1, .int .i64 x.f2, .int .i64 x.f3] 33 (0, 0)) := ⟨_, rfl⟩
                                    have K1 := Aside0.mk (show Keeps w0 w w1 g _ size _ by rw [hww]; exact K0.out.alloc _)
                                    have X1 := Aside0.mk (show w1.heap[b1]? = some (.cells #[.int .u8 x.f0, .string x.f1, .int .i64 x.f2, .int .i64 x.f3] 33 (0, 0)) by rw [hww, hbb]; exact blk_new _ _)
                                    have Y1 := Aside0.mk (show g < b1 by rw [hbb]; exact K0.out.i.lt)
                                    rw [← hww, ← hbb]
                                    clear hww hbb
                                    have hx0 : w1.cell? ⟨b1, 0, none⟩ = some (.int .u8 x.f0) := (blk_cell X1.out 0).trans rfl
                                    have hx1 : w1.cell? ⟨b1, 1, none⟩ = some (.string x.f1) := (blk_cell X1.out 1).trans rfl
                                    have hx2 : w1.cell? ⟨b1, 2, none⟩ = some (.int .i64 x.f2) := (blk_cell X1.out 2).trans rfl
                                    clear hx1 hx2
                                    go_wp2_with (first | (go_at_call 107; (with_reducible refine (ks_mine K1.out HN0.out).mono ?_); rintro e w2 ⟨rfl, hk⟩; have K2 := Aside0.mk hk.k; clear hk) | (go_at_call 99; (with_reducible refine (ks_has_f (⟨#[110, 111, 110, 101]⟩ : ByteArray) K2.out HN1.out).mono ?_); rintro e w' ⟨rfl, rfl⟩) | (go_at_call 99; (with_reducible refine (ks_has_f (⟨#[116, 114, 117, 101]⟩ : ByteArray) K2.out HN2.out).mono ?_); rintro e w' ⟨rfl, rfl⟩) | (go_at_call 99; (with_reducible refine (ks_has_f (⟨#[102, 97, 108, 115, 101]⟩ : ByteArray) K2.out HN3.out).mono ?_); rintro e w' ⟨rfl, rfl⟩) | (go_at_call 99; (with_reducible refine (ks_has_f (⟨#[118, 101, 114, 115, 105, 111, 110]⟩ : ByteArray) K2.out HN4.out).mono ?_); rintro e w' ⟨rfl, rfl⟩) | (go_at_call 99; (with_reducible refine (ks_has_f (⟨#[91]⟩ : ByteArray) K2.out HN5.out).mono ?_); rintro e w' ⟨rfl, rfl⟩) | (go_at_call 99; (with_reducible refine (ks_has_f (⟨#[40]⟩ : ByteArray) K2.out HN6.out).mono ?_); rintro e w' ⟨rfl, rfl⟩) | (go_at_call 99; (with_reducible refine (ks_has_f (⟨#[108, 101, 110]⟩ : ByteArray) K2.out HN7.out).mono ?_); rintro e w' ⟨rfl, rfl⟩) | (go_at_call 99; (with_reducible refine (ks_has_f (⟨#[114, 101]⟩ : ByteArray) K2.out HN8.out).mono ?_); rintro e w' ⟨rfl, rfl⟩) | (go_at_call 99; (with_reducible refine (ks_has_f (⟨#[105, 109]⟩ : ByteArray) K2.out HN9.out).mono ?_); rintro e w' ⟨rfl, rfl⟩) | (go_at_call 99; (with_reducible refine (ks_has_f (⟨#[99, 111, 110, 106]⟩ : ByteArray) K2.out HN10.out).mono ?_); rintro e w' ⟨rfl, rfl⟩) | (go_at_call 99; (with_reducible refine (ks_has_t (⟨#[116, 105, 109, 101, 114]⟩ : ByteArray) K2.out HN11.out).mono ?_); rintro e w3 ⟨rfl, hk⟩; have K3 := Aside0.mk hk.k; clear hk) | (go_at_call 127; (with_reducible refine (ks_one_bad IHm.out 52 H12.out HL3.out K3.out).mono ?_); rintro e w' ⟨rfl, hb⟩))
                                    exact ⟨rfl, rfl, hb⟩
                                · clear hr; have hr := hq; clear hq; have HN11 := Aside0.mk (Bool.eq_false_iff.2 hn)
                                  clear hn
                                  rcases ite_inv hr with ⟨hn, hq⟩ | ⟨hn, hq⟩
                                  · clear hr; have hr := hq; clear hq; skip
                                    try simp only [List.tail_cons] at hr
                                    have HN12 := Aside0.mk hn
                                    have HL3 := Aside0.mk (show r0.length ≤ 100000 by have := HL2.out; rw [List.length_cons] at this; omega)
                                    clear hn
                                    rcases mustS_inv hr with ⟨x13, m13, rfl, hn, hr⟩ | ⟨hn, rfl⟩
                                    · have HN13 := Aside0.mk hn
                                      have HL4 := Aside0.mk (show m13.length ≤ 100000 by have := HL3.out; rw [List.length_cons] at this; omega)
                                      clear hn
                                      rcases andThen_inv hr with ⟨t15, m14, g15, h1, hr⟩ | ⟨m14, h1, rfl⟩
                                      · have H14 := Aside0.mk h1
                                        have HL5 := Aside0.mk (Nat.le_trans ((all_sh k).1 _ _ _ _ h1).1.length_le HL4.out)
                                        clear h1
                                        rcases mustS_inv hr with ⟨x15, m15, rfl, hn, hr⟩ | ⟨hn, rfl⟩
                                        · have HN15 := Aside0.mk hn
                                          have HL6 := Aside0.mk (show m15.length ≤ 100000 by have := HL5.out; rw [List.length_cons] at this; omega)
                                          clear hn
                                          rcases andThen_inv hr with ⟨t17, m16, g17, h1, hr⟩ | ⟨m16, h1, rfl⟩
                                          · have H16 := Aside0.mk h1
                                            have HL7 := Aside0.mk (Nat.le_trans ((all_sh k).1 _ _ _ _ h1).1.length_le HL6.out)
                                            clear h1
                                            rcases mustS_inv hr with ⟨x17, m17, rfl, hn, hr⟩ | ⟨hn, rfl⟩
                                            · have HN17 := Aside0.mk hn
                                              have HL8 := Aside0.mk (show m17.length ≤ 100000 by have := HL7.out; rw [List.length_cons] at this; omega)
                                              clear hn
                                              obtain rfl := Option.some.inj hr
                                              clear hr
                                              go_enter Try.func126, Try.ntmps126
                                              go_upto_region 4 with (fail)
                                              obtain ⟨b1, hbb⟩ : ∃ b, b = w.heap.size := ⟨_, rfl⟩
                                              obtain ⟨w1, hww⟩ : ∃ W : World, W = w.alloc (.cells #[.int .u8 x.f0, .string x.f1, .int .i64 x.f2, .int .i64 x.f3] 33 (0, 0)) := ⟨_, rfl⟩
                                              have K1 := Aside0.mk (show Keeps w0 w w1 g _ size _ by rw [hww]; exact K0.out.alloc _)
                                              have X1 := Aside0.mk (show w1.heap[b1]? = some (.cells #[.int .u8 x.f0, .string x.f1, .int .i64 x.f2, .int .i64 x.f3] 33 (0, 0)) by rw [hww, hbb]; exact blk_new _ _)
                                              have Y1 := Aside0.mk (show g < b1 by rw [hbb]; exact K0.out.i.lt)
                                              rw [← hww, ← hbb]
                                              clear hww hbb
                                              have hx0 : w1.cell? ⟨b1, 0, none⟩ = some (.int .u8 x.f0) := (blk_cell X1.out 0).trans rfl
                                              have hx1 : w1.cell? ⟨b1, 1, none⟩ = some (.string x.f1) := (blk_cell X1.out 1).trans rfl
                                              have hx2 : w1.cell? ⟨b1, 2, none⟩ = some (.int .i64 x.f2) := (blk_cell X1.out 2).trans rfl
                                              clear hx1 hx2
                                              go_wp2_with (first | (go_at_call 107; (with_reducible refine (ks_mine K1.out HN0.out).mono ?_); rintro e w2 ⟨rfl, hk⟩; have K2 := Aside0.mk hk.k; clear hk) | (go_at_call 99; (with_reducible refine (ks_has_f (⟨#[110, 111, 110, 101]⟩ : ByteArray) K2.out HN1.out).mono ?_); rintro e w' ⟨rfl, rfl⟩) | (go_at_call 99; (with_reducible refine (ks_has_f (⟨#[116, 114, 117, 101]⟩ : ByteArray) K2.out HN2.out).mono ?_); rintro e w' ⟨rfl, rfl⟩) | (go_at_call 99; (with_reducible refine (ks_has_f (⟨#[102, 97, 108, 115, 101]⟩ : ByteArray) K2.out HN3.out).mono ?_); rintro e w' ⟨rfl, rfl⟩) | (go_at_call 99; (with_reducible refine (ks_has_f (⟨#[118, 101, 114, 115, 105, 111, 110]⟩ : ByteArray) K2.out HN4.out).mono ?_); rintro e w' ⟨rfl, rfl⟩) | (go_at_call 99; (with_reducible refine (ks_has_f (⟨#[91]⟩ : ByteArray) K2.out HN5.out).mono ?_); rintro e w' ⟨rfl, rfl⟩) | (go_at_call 99; (with_reducible refine (ks_has_f (⟨#[40]⟩ : ByteArray) K2.out HN6.out).mono ?_); rintro e w' ⟨rfl, rfl⟩) | (go_at_call 99; (with_reducible refine (ks_has_f (⟨#[108, 101, 110]⟩ : ByteArray) K2.out HN7.out).mono ?_); rintro e w' ⟨rfl, rfl⟩) | (go_at_call 99; (with_reducible refine (ks_has_f (⟨#[114, 101]⟩ : ByteArray) K2.out HN8.out).mono ?_); rintro e w' ⟨rfl, rfl⟩) | (go_at_call 99; (with_reducible refine (ks_has_f (⟨#[105, 109]⟩ : ByteArray) K2.out HN9.out).mono ?_); rintro e w' ⟨rfl, rfl⟩) | (go_at_call 99; (with_reducible refine (ks_has_f (⟨#[99, 111, 110, 106]⟩ : ByteArray) K2.out HN10.out).mono ?_); rintro e w' ⟨rfl, rfl⟩) | (go_at_call 99; (with_reducible refine (ks_has_f (⟨#[116, 105, 109, 101, 114]⟩ : ByteArray) K2.out HN11.out).mono ?_); rintro e w' ⟨rfl, rfl⟩) | (go_at_call 99; (with_reducible refine (ks_has_t (⟨#[110, 117, 109]⟩ : ByteArray) K2.out HN12.out).mono ?_); rintro e w3 ⟨rfl, hk⟩; have K3 := Aside0.mk hk.k; clear hk) | (go_at_call 84; (with_reducible refine (ks_must_t (⟨#[40]⟩ : ByteArray) K3.out HN13.out).mono ?_); rintro e w4 ⟨rfl, hk⟩; have K4 := Aside0.mk hk.k; clear hk) | (go_at_call 57; (with_reducible refine (ks_call IHk.out.expr_ H14.out HL4.out K4.out).mono ?_); rintro e w5 ⟨A15, c15, rfl, ht, hk⟩; have K5 := Aside0.mk hk.k; have T15 := Aside0.mk ht; clear ht hk) | (go_at_call 84; (with_reducible refine (ks_must_t (⟨#[44]⟩ : ByteArray) K5.out HN15.out).mono ?_); rintro e w6 ⟨rfl, hk⟩; have K6 := Aside0.mk hk.k; replace T15 := Aside0.mk (T15.out.keep GL.out hk.b); clear hk) | (go_at_call 57; (with_reducible refine (ks_call IHk.out.expr_ H16.out HL6.out K6.out).mono ?_); rintro e w7 ⟨A17, c17, rfl, ht, hk⟩; have K7 := Aside0.mk hk.k; replace T15 := Aside0.mk (T15.out.keep GL.out hk.b); have T17 := Aside0.mk ht; clear ht hk) | (go_at_call 84; (with_reducible refine (ks_must_t (⟨#[41]⟩ : ByteArray) K7.out HN17.out).mono ?_); rintro e w8 ⟨rfl, hk⟩; have K8 := Aside0.mk hk.k; replace T15 := Aside0.mk (T15.out.keep GL.out hk.b); replace T17 := Aside0.mk (T17.out.keep GL.out hk.b); clear hk) | (go_at_call 88; refine (rd_of2 K8.out GL.out T15.out T17.out).mono ?_; rintro e w9 ⟨A90, c90, rfl, ht, hk⟩; have T90 := Aside0.mk ht; have K9 := Aside0.mk hk; clear ht hk))
                                              go_ret
                                              exact PostR.ok_ T90.out K9.out
                                            · have HN17 := Aside0.mk hn
                                              clear hn
                                              go_enter Try.func126, Try.ntmps126
                                              go_upto_region 4 with (fail)
                                              obtain ⟨b1, hbb⟩ : ∃ b, b = w.heap.size := ⟨_, rfl⟩
                                              obtain ⟨w1, hww⟩ : ∃ W : World, W = w.alloc (.cells #[.int .u8 x.f0, .string x.f1, .int .i64 x.f2, .int .i64 x.f3] 33 (0, 0)) := ⟨_, rfl⟩
                                              have K1 := Aside0.mk (show Keeps w0 w w1 g _ size _ by rw [hww]; exact K0.out.alloc _)
                                              have X1 := Aside0.mk (show w1.heap[b1]? = some (.cells #[.int .u8 x.f0, .string x.f1, .int .i64 x.f2, .int .i64 x.f3] 33 (0, 0)) by rw [hww, hbb]; exact blk_new _ _)
                                              have Y1 := Aside0.mk (show g < b1 by rw [hbb]; exact K0.out.i.lt)
                                              rw [← hww, ← hbb]
                                              clear hww hbb
                                              have hx0 : w1.cell? ⟨b1, 0, none⟩ = some (.int .u8 x.f0) := (blk_cell X1.out 0).trans rfl
                                              have hx1 : w1.cell? ⟨b1, 1, none⟩ = some (.string x.f1) := (blk_cell X1.out 1).trans rfl
                                              have hx2 : w1.cell? ⟨b1, 2, none⟩ = some (.int .i64 x.f2) := (blk_cell X1.out 2).trans rfl
                                              clear hx1 hx2
                                              go_wp2_with (first | (go_at_call 107; (with_reducible refine (ks_mine K1.out HN0.out).mono ?_); rintro e w2 ⟨rfl, hk⟩; have K2 := Aside0.mk hk.k; clear hk) | (go_at_call 99; (with_reducible refine (ks_has_f (⟨#[110, 111, 110, 101]⟩ : ByteArray) K2.out HN1.out).mono ?_); rintro e w' ⟨rfl, rfl⟩) | (go_at_call 99; (with_reducible refine (ks_has_f (⟨#[116, 114, 117, 101]⟩ : ByteArray) K2.out HN2.out).mono ?_); rintro e w' ⟨rfl, rfl⟩) | (go_at_call 99; (with_reducible refine (ks_has_f (⟨#[102, 97, 108, 115, 101]⟩ : ByteArray) K2.out HN3.out).mono ?_); rintro e w' ⟨rfl, rfl⟩) | (go_at_call 99; (with_reducible refine (ks_has_f (⟨#[118, 101, 114, 115, 105, 111, 110]⟩ : ByteArray) K2.out HN4.out).mono ?_); rintro e w' ⟨rfl, rfl⟩) | (go_at_call 99; (with_reducible refine (ks_has_f (⟨#[91]⟩ : ByteArray) K2.out HN5.out).mono ?_); rintro e w' ⟨rfl, rfl⟩) | (go_at_call 99; (with_reducible refine (ks_has_f (⟨#[40]⟩ : ByteArray) K2.out HN6.out).mono ?_); rintro e w' ⟨rfl, rfl⟩) | (go_at_call 99; (with_reducible refine (ks_has_f (⟨#[108, 101, 110]⟩ : ByteArray) K2.out HN7.out).mono ?_); rintro e w' ⟨rfl, rfl⟩) | (go_at_call 99; (with_reducible refine (ks_has_f (⟨#[114, 101]⟩ : ByteArray) K2.out HN8.out).mono ?_); rintro e w' ⟨rfl, rfl⟩) | (go_at_call 99; (with_reducible refine (ks_has_f (⟨#[105, 109]⟩ : ByteArray) K2.out HN9.out).mono ?_); rintro e w' ⟨rfl, rfl⟩) | (go_at_call 99; (with_reducible refine (ks_has_f (⟨#[99, 111, 110, 106]⟩ : ByteArray) K2.out HN10.out).mono ?_); rintro e w' ⟨rfl, rfl⟩) | (go_at_call 99; (with_reducible refine (ks_has_f (⟨#[116, 105, 109, 101, 114]⟩ : ByteArray) K2.out HN11.out).mono ?_); rintro e w' ⟨rfl, rfl⟩) | (go_at_call 99; (with_reducible refine (ks_has_t (⟨#[110, 117, 109]⟩ : ByteArray) K2.out HN12.out).mono ?_); rintro e w3 ⟨rfl, hk⟩; have K3 := Aside0.mk hk.k; clear hk) | (go_at_call 84; (with_reducible refine (ks_must_t (⟨#[40]⟩ : ByteArray) K3.out HN13.out).mono ?_); rintro e w4 ⟨rfl, hk⟩; have K4 := Aside0.mk hk.k; clear hk) | (go_at_call 57; (with_reducible refine (ks_call IHk.out.expr_ H14.out HL4.out K4.out).mono ?_); rintro e w5 ⟨A15, c15, rfl, ht, hk⟩; have K5 := Aside0.mk hk.k; have T15 := Aside0.mk ht; clear ht hk) | (go_at_call 84; (with_reducible refine (ks_must_t (⟨#[44]⟩ : ByteArray) K5.out HN15.out).mono ?_); rintro e w6 ⟨rfl, hk⟩; have K6 := Aside0.mk hk.k; replace T15 := Aside0.mk (T15.out.keep GL.out hk.b); clear hk) | (go_at_call 57; (with_reducible refine (ks_call IHk.out.expr_ H16.out HL6.out K6.out).mono ?_); rintro e w7 ⟨A17, c17, rfl, ht, hk⟩; have K7 := Aside0.mk hk.k; replace T15 := Aside0.mk (T15.out.keep GL.out hk.b); have T17 := Aside0.mk ht; clear ht hk) | (go_at_call 84; (with_reducible refine (ks_must_f (⟨#[41]⟩ : ByteArray) K7.out HN17.out).mono ?_); rintro e w' ⟨rfl, hb⟩))
                                              exact ⟨rfl, rfl, hb⟩
                                          · have H16 := Aside0.mk h1
                                            clear h1
                                            go_enter Try.func126, Try.ntmps126
                                            go_upto_region 4 with (fail)
                                            obtain ⟨b1, hbb⟩ : ∃ b, b = w.heap.size := ⟨_, rfl⟩
                                            obtain ⟨w1, hww⟩ : ∃ W : World, W = w.alloc (.cells #[.int .u8 x.f0, .string x.f1, .int .i64 x.f2, .int .i64 x.f3] 33 (0, 0)) := ⟨_, rfl⟩
                                            have K1 := Aside0.mk (show Keeps w0 w w1 g _ size _ by rw [hww]; exact K0.out.alloc _)
                                            have X1 := Aside0.mk (show w1.heap[b1]? = some (.cells #[.int .u8 x.f0, .string x.f1, .int .i64 x.f2, .int .i64 x.f3] 33 (0, 0)) by rw [hww, hbb]; exact blk_new _ _)
                                            have Y1 := Aside0.mk (show g < b1 by rw [hbb]; exact K0.out.i.lt)
                                            rw [← hww, ← hbb]
                                            clear hww hbb
                                            have hx0 : w1.cell? ⟨b1, 0, none⟩ = some (.int .u8 x.f0) := (blk_cell X1.out 0).trans rfl
                                            have hx1 : w1.cell? ⟨b1, 1, none⟩ = some (.string x.f1) := (blk_cell X1.out 1).trans rfl
                                            have hx2 : w1.cell? ⟨b1, 2, none⟩ = some (.int .i64 x.f2) := (blk_cell X1.out 2).trans rfl
                                            clear hx1 hx2
                                            go_wp2_with (first | (go_at_call 107; (with_reducible refine (ks_mine K1.out HN0.out).mono ?_); rintro e w2 ⟨rfl, hk⟩; have K2 := Aside0.mk hk.k; clear hk) | (go_at_call 99; (with_reducible refine (ks_has_f (⟨#[110, 111, 110, 101]⟩ : ByteArray) K2.out HN1.out).mono ?_); rintro e w' ⟨rfl, rfl⟩) | (go_at_call 99; (with_reducible refine (ks_has_f (⟨#[116, 114, 117, 101]⟩ : ByteArray) K2.out HN2.out).mono ?_); rintro e w' ⟨rfl, rfl⟩) | (go_at_call 99; (with_reducible refine (ks_has_f (⟨#[102, 97, 108, 115, 101]⟩ : ByteArray) K2.out HN3.out).mono ?_); rintro e w' ⟨rfl, rfl⟩) | (go_at_call 99; (with_reducible refine (ks_has_f (⟨#[118, 101, 114, 115, 105, 111, 110]⟩ : ByteArray) K2.out HN4.out).mono ?_); rintro e w' ⟨rfl, rfl⟩) | (go_at_call 99; (with_reducible refine (ks_has_f (⟨#[91]⟩ : ByteArray) K2.out HN5.out).mono ?_); rintro e w' ⟨rfl, rfl⟩) | (go_at_call 99; (with_reducible refine (ks_has_f (⟨#[40]⟩ : ByteArray) K2.out HN6.out).mono ?_); rintro e w' ⟨rfl, rfl⟩) | (go_at_call 99; (with_reducible refine (ks_has_f (⟨#[108, 101, 110]⟩ : ByteArray) K2.out HN7.out).mono ?_); rintro e w' ⟨rfl, rfl⟩) | (go_at_call 99; (with_reducible refine (ks_has_f (⟨#[114, 101]⟩ : ByteArray) K2.out HN8.out).mono ?_); rintro e w' ⟨rfl, rfl⟩) | (go_at_call 99; (with_reducible refine (ks_has_f (⟨#[105, 109]⟩ : ByteArray) K2.out HN9.out).mono ?_); rintro e w' ⟨rfl, rfl⟩) | (go_at_call 99; (with_reducible refine (ks_has_f (⟨#[99, 111, 110, 106]⟩ : ByteArray) K2.out HN10.out).mono ?_); rintro e w' ⟨rfl, rfl⟩) | (go_at_call 99; (with_reducible refine (ks_has_f (⟨#[116, 105, 109, 101, 114]⟩ : ByteArray) K2.out HN11.out).mono ?_); rintro e w' ⟨rfl, rfl⟩) | (go_at_call 99; (with_reducible refine (ks_has_t (⟨#[110, 117, 109]⟩ : ByteArray) K2.out HN12.out).mono ?_); rintro e w3 ⟨rfl, hk⟩; have K3 := Aside0.mk hk.k; clear hk) | (go_at_call 84; (with_reducible refine (ks_must_t (⟨#[40]⟩ : ByteArray) K3.out HN13.out).mono ?_); rintro e w4 ⟨rfl, hk⟩; have K4 := Aside0.mk hk.k; clear hk) | (go_at_call 57; (with_reducible refine (ks_call IHk.out.expr_ H14.out HL4.out K4.out).mono ?_); rintro e w5 ⟨A15, c15, rfl, ht, hk⟩; have K5 := Aside0.mk hk.k; have T15 := Aside0.mk ht; clear ht hk) | (go_at_call 84; (with_reducible refine (ks_must_t (⟨#[44]⟩ : ByteArray) K5.out HN15.out).mono ?_); rintro e w6 ⟨rfl, hk⟩; have K6 := Aside0.mk hk.k; replace T15 := Aside0.mk (T15.out.keep GL.out hk.b); clear hk) | (go_at_call 57; (with_reducible refine (ks_call_bad IHk.out.expr_ H16.out HL6.out K6.out).mono ?_); rintro e w' ⟨rfl, hb⟩))
                                            exact ⟨rfl, rfl, hb⟩
                                        · have HN15 := Aside0.mk hn
                                          clear hn
                                          go_enter Try.func126, Try.ntmps126
                                          go_upto_region 4 with (fail)
                                          obtain ⟨b1, hbb⟩ : ∃ b, b = w.heap.size := ⟨_, rfl⟩
                                          obtain ⟨w1, hww⟩ : ∃ W : World, W = w.alloc (.cells #[.int .u8 x.f0, .string x.f1, .int .i64 x.f2, .int .i64 x.f3] 33 (0, 0)) := ⟨_, rfl⟩
                                          have K1 := Aside0.mk (show Keeps w0 w w1 g _ size _ by rw [hww]; exact K0.out.alloc _)
                                          have X1 := Aside0.mk (show w1.heap[b1]? = some (.cells #[.int .u8 x.f0, .string x.f1, .int .i64 x.f2, .int .i64 x.f3] 33 (0, 0)) by rw [hww, hbb]; exact blk_new _ _)
                                          have Y1 := Aside0.mk (show g < b1 by rw [hbb]; exact K0.out.i.lt)
                                          rw [← hww, ← hbb]
                                          clear hww hbb
                                          have hx0 : w1.cell? ⟨b1, 0, none⟩ = some (.int .u8 x.f0) := (blk_cell X1.out 0).trans rfl
                                          have hx1 : w1.cell? ⟨b1, 1, none⟩ = some (.string x.f1) := (blk_cell X1.out 1).trans rfl
                                          have hx2 : w1.cell? ⟨b1, 2, none⟩ = some (.int .i64 x.f2) := (blk_cell X1.out 2).trans rfl
                                          clear hx1 hx2
                                          go_wp2_with (first | (go_at_call 107; (with_reducible refine (ks_mine K1.out HN0.out).mono ?_); rintro e w2 ⟨rfl, hk⟩; have K2 := Aside0.mk hk.k; clear hk) | (go_at_call 99; (with_reducible refine (ks_has_f (⟨#[110, 111, 110, 101]⟩ : ByteArray) K2.out HN1.out).mono ?_); rintro e w' ⟨rfl, rfl⟩) | (go_at_call 99; (with_reducible refine (ks_has_f (⟨#[116, 114, 117, 101]⟩ : ByteArray) K2.out HN2.out).mono ?_); rintro e w' ⟨rfl, rfl⟩) | (go_at_call 99; (with_reducible refine (ks_has_f (⟨#[102, 97, 108, 115, 101]⟩ : ByteArray) K2.out HN3.out).mono ?_); rintro e w' ⟨rfl, rfl⟩) | (go_at_call 99; (with_reducible refine (ks_has_f (⟨#[118, 101, 114, 115, 105, 111, 110]⟩ : ByteArray) K2.out HN4.out).mono ?_); rintro e w' ⟨rfl, rfl⟩) | (go_at_call 99; (with_reducible refine (ks_has_f (⟨#[91]⟩ : ByteArray) K2.out HN5.out).mono ?_); rintro e w' ⟨rfl, rfl⟩) | (go_at_call 99; (with_reducible refine (ks_has_f (⟨#[40]⟩ : ByteArray) K2.out HN6.out).mono ?_); rintro e w' ⟨rfl, rfl⟩) | (go_at_call 99; (with_reducible refine (ks_has_f (⟨#[108, 101, 110]⟩ : ByteArray) K2.out HN7.out).mono ?_); rintro e w' ⟨rfl, rfl⟩) | (go_at_call 99; (with_reducible refine (ks_has_f (⟨#[114, 101]⟩ : ByteArray) K2.out HN8.out).mono ?_); rintro e w' ⟨rfl, rfl⟩) | (go_at_call 99; (with_reducible refine (ks_has_f (⟨#[105, 109]⟩ : ByteArray) K2.out HN9.out).mono ?_); rintro e w' ⟨rfl, rfl⟩) | (go_at_call 99; (with_reducible refine (ks_has_f (⟨#[99, 111, 110, 106]⟩ : ByteArray) K2.out HN10.out).mono ?_); rintro e w' ⟨rfl, rfl⟩) | (go_at_call 99; (with_reducible refine (ks_has_f (⟨#[116, 105, 109, 101, 114]⟩ : ByteArray) K2.out HN11.out).mono ?_); rintro e w' ⟨rfl, rfl⟩) | (go_at_call 99; (with_reducible refine (ks_has_t (⟨#[110, 117, 109]⟩ : ByteArray) K2.out HN12.out).mono ?_); rintro e w3 ⟨rfl, hk⟩; have K3 := Aside0.mk hk.k; clear hk) | (go_at_call 84; (with_reducible refine (ks_must_t (⟨#[40]⟩ : ByteArray) K3.out HN13.out).mono ?_); rintro e w4 ⟨rfl, hk⟩; have K4 := Aside0.mk hk.k; clear hk) | (go_at_call 57; (with_reducible refine (ks_call IHk.out.expr_ H14.out HL4.out K4.out).mono ?_); rintro e w5 ⟨A15, c15, rfl, ht, hk⟩; have K5 := Aside0.mk hk.k; have T15 := Aside0.mk ht; clear ht hk) | (go_at_call 84; (with_reducible refine (ks_must_f (⟨#[44]⟩ : ByteArray) K5.out HN15.out).mono ?_); rintro e w' ⟨rfl, hb⟩))
                                          exact ⟨rfl, rfl, hb⟩
                                      · have H14 := Aside0.mk h1
                                        clear h1
                                        go_enter Try.func126, Try.ntmps126
                                        go_upto_region 4 with (fail)
                                        obtain ⟨b1, hbb⟩ : ∃ b, b = w.heap.size := ⟨_, rfl⟩
                                        obtain ⟨w1, hww⟩ : ∃ W : World, W = w.alloc (.cells #[.int .u8 x.f0, .string x.f1, .int .i64 x.f2, .int .i64 x.f3] 33 (0, 0)) := ⟨_, rfl⟩
                                        have K1 := Aside0.mk (show Keeps w0 w w1 g _ size _ by rw [hww]; exact K0.out.alloc _)
                                        have X1 := Aside0.mk (show w1.heap[b1]? = some (.cells #[.int .u8 x.f0, .string x.f1, .int .i64 x.f2, .int .i64 x.f3] 33 (0, 0)) by rw [hww, hbb]; exact blk_new _ _)
                                        have Y1 := Aside0.mk (show g < b1 by rw [hbb]; exact K0.out.i.lt)
                                        rw [← hww, ← hbb]
                                        clear hww hbb
                                        have hx0 : w1.cell? ⟨b1, 0, none⟩ = some (.int .u8 x.f0) := (blk_cell X1.out 0).trans rfl
                                        have hx1 : w1.cell? ⟨b1, 1, none⟩ = some (.string x.f1) := (blk_cell X1.out 1).trans rfl
                                        have hx2 : w1.cell? ⟨b1, 2, none⟩ = some (.int .i64 x.f2) := (blk_cell X1.out 2).trans rfl
                                        clear hx1 hx2
                                        go_wp2_with (first | (go_at_call 107; (with_reducible refine (ks_mine K1.out HN0.out).mono ?_); rintro e w2 ⟨rfl, hk⟩; have K2 := Aside0.mk hk.k; clear hk) | (go_at_call 99; (with_reducible refine (ks_has_f (⟨#[110, 111, 110, 101]⟩ : ByteArray) K2.out HN1.out).mono ?_); rintro e w' ⟨rfl, rfl⟩) | (go_at_call 99; (with_reducible refine (ks_has_f (⟨#[116, 114, 117, 101]⟩ : ByteArray) K2.out HN2.out).mono ?_); rintro e w' ⟨rfl, rfl⟩) | (go_at_call 99; (with_reducible refine (ks_has_f (⟨#[102, 97, 108, 115, 101]⟩ : ByteArray) K2.out HN3.out).mono ?_); rintro e w' ⟨rfl, rfl⟩) | (go_at_call 99; (with_reducible refine (ks_has_f (⟨#[118, 101, 114, 115, 105, 111, 110]⟩ : ByteArray) K2.out HN4.out).mono ?_); rintro e w' ⟨rfl, rfl⟩) | (go_at_call 99; (with_reducible refine (ks_has_f (⟨#[91]⟩ : ByteArray) K2.out HN5.out).mono ?_); rintro e w' ⟨rfl, rfl⟩) | (go_at_call 99; (with_reducible refine (ks_has_f (⟨#[40]⟩ : ByteArray) K2.out HN6.out).mono ?_); rintro e w' ⟨rfl, rfl⟩) | (go_at_call 99; (with_reducible refine (ks_has_f (⟨#[108, 101, 110]⟩ : ByteArray) K2.out HN7.out).mono ?_); rintro e w' ⟨rfl, rfl⟩) | (go_at_call 99; (with_reducible refine (ks_has_f (⟨#[114, 101]⟩ : ByteArray) K2.out HN8.out).mono ?_); rintro e w' ⟨rfl, rfl⟩) | (go_at_call 99; (with_reducible refine (ks_has_f (⟨#[105, 109]⟩ : ByteArray) K2.out HN9.out).mono ?_); rintro e w' ⟨rfl, rfl⟩) | (go_at_call 99; (with_reducible refine (ks_has_f (⟨#[99, 111, 110, 106]⟩ : ByteArray) K2.out HN10.out).mono ?_); rintro e w' ⟨rfl, rfl⟩) | (go_at_call 99; (with_reducible refine (ks_has_f (⟨#[116, 105, 109, 101, 114]⟩ : ByteArray) K2.out HN11.out).mono ?_); rintro e w' ⟨rfl, rfl⟩) | (go_at_call 99; (with_reducible refine (ks_has_t (⟨#[110, 117, 109]⟩ : ByteArray) K2.out HN12.out).mono ?_); rintro e w3 ⟨rfl, hk⟩; have K3 := Aside0.mk hk.k; clear hk) | (go_at_call 84; (with_reducible refine (ks_must_t (⟨#[40]⟩ : ByteArray) K3.out HN13.out).mono ?_); rintro e w4 ⟨rfl, hk⟩; have K4 := Aside0.mk hk.k; clear hk) | (go_at_call 57; (with_reducible refine (ks_call_bad IHk.out.expr_ H14.out HL4.out K4.out).mono ?_); rintro e w' ⟨rfl, hb⟩))
                                        exact ⟨rfl, rfl, hb⟩
                                    · have HN13 := Aside0.mk hn
                                      clear hn
                                      go_enter Try.func126, Try.ntmps126
                                      go_upto_region 4 with (fail)
                                      obtain ⟨b1, hbb⟩ : ∃ b, b = w.heap.size := ⟨_, rfl⟩
                                      obtain ⟨w1, hww⟩ : ∃ W : World, W = w.alloc (.cells #[.int .u8 x.f0, .string x.f1, .int .i64 x.f2, .int .i64 x.f3] 33 (0, 0)) := ⟨_, rfl⟩
                                      have K1 := Aside0.mk (show Keeps w0 w w1 g _ size _ by rw [hww]; exact K0.out.alloc _)
                                      have X1 := Aside0.mk (show w1.heap[b1]? = some (.cells #[.int .u8 x.f0, .string x.f1, .int .i64 x.f2, .int .i64 x.f3] 33 (0, 0)) by rw [hww, hbb]; exact blk_new _ _)
                                      have Y1 := Aside0.mk (show g < b1 by rw [hbb]; exact K0.out.i.lt)
                                      rw [← hww, ← hbb]
                                      clear hww hbb
                                      have hx0 : w1.cell? ⟨b1, 0, none⟩ = some (.int .u8 x.f0) := (blk_cell X1.out 0).trans rfl
                                      have hx1 : w1.cell? ⟨b1, 1, none⟩ = some (.string x.f1) := (blk_cell X1.out 1).trans rfl
                                      have hx2 : w1.cell? ⟨b1, 2, none⟩ = some (.int .i64 x.f2) := (blk_cell X1.out 2).trans rfl
                                      clear hx1 hx2
                                      go_wp2_with (first | (go_at_call 107; (with_reducible refine (ks_mine K1.out HN0.out).mono ?_); rintro e w2 ⟨rfl, hk⟩; have K2 := Aside0.mk hk.k; clear hk) | (go_at_call 99; (with_reducible refine (ks_has_f (⟨#[110, 111, 110, 101]⟩ : ByteArray) K2.out HN1.out).mono ?_); rintro e w' ⟨rfl, rfl⟩) | (go_at_call 99; (with_reducible refine (ks_has_f (⟨#[116, 114, 117, 101]⟩ : ByteArray) K2.out HN2.out).mono ?_); rintro e w' ⟨rfl, rfl⟩) | (go_at_call 99; (with_reducible refine (ks_has_f (⟨#[102, 97, 108, 115, 101]⟩ : ByteArray) K2.out HN3.out).mono ?_); rintro e w' ⟨rfl, rfl⟩) | (go_at_call 99; (with_reducible refine (ks_has_f (⟨#[118, 101, 114, 115, 105, 111, 110]⟩ : ByteArray) K2.out HN4.out).mono ?_); rintro e w' ⟨rfl, rfl⟩) | (go_at_call 99; (with_reducible refine (ks_has_f (⟨#[91]⟩ : ByteArray) K2.out HN5.out).mono ?_); rintro e w' ⟨rfl, rfl⟩) | (go_at_call 99; (with_reducible refine (ks_has_f (⟨#[40]⟩ : ByteArray) K2.out HN6.out).mono ?_); rintro e w' ⟨rfl, rfl⟩) | (go_at_call 99; (with_reducible refine (ks_has_f (⟨#[108, 101, 110]⟩ : ByteArray) K2.out HN7.out).mono ?_); rintro e w' ⟨rfl, rfl⟩) | (go_at_call 99; (with_reducible refine (ks_has_f (⟨#[114, 101]⟩ : ByteArray) K2.out HN8.out).mono ?_); rintro e w' ⟨rfl, rfl⟩) | (go_at_call 99; (with_reducible refine (ks_has_f (⟨#[105, 109]⟩ : ByteArray) K2.out HN9.out).mono ?_); rintro e w' ⟨rfl, rfl⟩) | (go_at_call 99; (with_reducible refine (ks_has_f (⟨#[99, 111, 110, 106]⟩ : ByteArray) K2.out HN10.out).mono ?_); rintro e w' ⟨rfl, rfl⟩) | (go_at_call 99; (with_reducible refine (ks_has_f (⟨#[116, 105, 109, 101, 114]⟩ : ByteArray) K2.out HN11.out).mono ?_); rintro e w' ⟨rfl, rfl⟩) | (go_at_call 99; (with_reducible refine (ks_has_t (⟨#[110, 117, 109]⟩ : ByteArray) K2.out HN12.out).mono ?_); rintro e w3 ⟨rfl, hk⟩; have K3 := Aside0.mk hk.k; clear hk) | (go_at_call 84; (with_reducible refine (ks_must_f (⟨#[40]⟩ : ByteArray) K3.out HN13.out).mono ?_); rintro e w' ⟨rfl, hb⟩))
                                      exact ⟨rfl, rfl, hb⟩
                                  · clear hr; have hr := hq; clear hq; have HN12 := Aside0.mk (Bool.eq_false_iff.2 hn)
                                    clear hn
                                    rcases ite_inv hr with ⟨hn, hq⟩ | ⟨hn, hq⟩
                                    · clear hr; have hr := hq; clear hq; skip
                                      try simp only [List.tail_cons] at hr
                                      have HN13 := Aside0.mk hn
                                      have HL3 := Aside0.mk (show r0.length ≤ 100000 by have := HL2.out; rw [List.length_cons] at this; omega)
                                      clear hn
                                      rcases andThen_inv hr with ⟨t15, m14, g15, h1, hr⟩ | ⟨m14, h1, rfl⟩
                                      · have H14 := Aside0.mk h1
                                        have HL4 := Aside0.mk (Nat.le_trans ((all_sh k).2.2.2.2.2.2.2.2.1 _ _ _ h1).1.length_le HL3.out)
                                        clear h1
                                        obtain rfl := Option.some.inj hr
                                        clear hr
                                        go_enter Try.func126, Try.ntmps126
                                        go_upto_region 4 with (fail)
                                        obtain ⟨b1, hbb⟩ : ∃ b, b = w.heap.size := ⟨_, rfl⟩
                                        obtain ⟨w1, hww⟩ : ∃ W : World, W = w.alloc (.cells #[.int .u8 x.f0, .string x.f1, .int .i64 x.f2, .int .i64 x.f3] 33 (0, 0)) := ⟨_, rfl⟩
                                        have K1 := Aside0.mk (show Keeps w0 w w1 g _ size _ by rw [hww]; exact K0.out.alloc _)
                                        have X1 := Aside0.mk (show w1.heap[b1]? = some (.cells #[.int .u8 x.f0, .string x.f1, .int .i64 x.f2, .int .i64 x.f3] 33 (0, 0)) by rw [hww, hbb]; exact blk_new _ _)
                                        have Y1 := Aside0.mk (show g < b1 by rw [hbb]; exact K0.out.i.lt)
                                        rw [← hww, ← hbb]
                                        clear hww hbb
                                        have hx0 : w1.cell? ⟨b1, 0, none⟩ = some (.int .u8 x.f0) := (blk_cell X1.out 0).trans rfl
                                        have hx1 : w1.cell? ⟨b1, 1, none⟩ = some (.string x.f1) := (blk_cell X1.out 1).trans rfl
                                        have hx2 : w1.cell? ⟨b1, 2, none⟩ = some (.int .i64 x.f2) := (blk_cell X1.out 2).trans rfl
                                        clear hx1 hx2
                                        go_wp2_with (first | (go_at_call 107; (with_reducible refine (ks_mine K1.out HN0.out).mono ?_); rintro e w2 ⟨rfl, hk⟩; have K2 := Aside0.mk hk.k; clear hk) | (go_at_call 99; (with_reducible refine (ks_has_f (⟨#[110, 111, 110, 101]⟩ : ByteArray) K2.out HN1.out).mono ?_); rintro e w' ⟨rfl, rfl⟩) | (go_at_call 99; (with_reducible refine (ks_has_f (⟨#[116, 114, 117, 101]⟩ : ByteArray) K2.out HN2.out).mono ?_); rintro e w' ⟨rfl, rfl⟩) | (go_at_call 99; (with_reducible refine (ks_has_f (⟨#[102, 97, 108, 115, 101]⟩ : ByteArray) K2.out HN3.out).mono ?_); rintro e w' ⟨rfl, rfl⟩) | (go_at_call 99; (with_reducible refine (ks_has_f (⟨#[118, 101, 114, 115, 105, 111, 110]⟩ : ByteArray) K2.out HN4.out).mono ?_); rintro e w' ⟨rfl, rfl⟩) | (go_at_call 99; (with_reducible refine (ks_has_f (⟨#[91]⟩ : ByteArray) K2.out HN5.out).mono ?_); rintro e w' ⟨rfl, rfl⟩) | (go_at_call 99; (with_reducible refine (ks_has_f (⟨#[40]⟩ : ByteArray) K2.out HN6.out).mono ?_); rintro e w' ⟨rfl, rfl⟩) | (go_at_call 99; (with_reducible refine (ks_has_f (⟨#[108, 101, 110]⟩ : ByteArray) K2.out HN7.out).mono ?_); rintro e w' ⟨rfl, rfl⟩) | (go_at_call 99; (with_reducible refine (ks_has_f (⟨#[114, 101]⟩ : ByteArray) K2.out HN8.out).mono ?_); rintro e w' ⟨rfl, rfl⟩) | (go_at_call 99; (with_reducible refine (ks_has_f (⟨#[105, 109]⟩ : ByteArray) K2.out HN9.out).mono ?_); rintro e w' ⟨rfl, rfl⟩) | (go_at_call 99; (with_reducible refine (ks_has_f (⟨#[99, 111, 110, 106]⟩ : ByteArray) K2.out HN10.out).mono ?_); rintro e w' ⟨rfl, rfl⟩) | (go_at_call 99; (with_reducible refine (ks_has_f (⟨#[116, 105, 109, 101, 114]⟩ : ByteArray) K2.out HN11.out).mono ?_); rintro e w' ⟨rfl, rfl⟩) | (go_at_call 99; (with_reducible refine (ks_has_f (⟨#[110, 117, 109]⟩ : ByteArray) K2.out HN12.out).mono ?_); rintro e w' ⟨rfl, rfl⟩) | (go_at_call 99; (with_reducible refine (ks_has_t (⟨#[102, 111, 114, 107]⟩ : ByteArray) K2.out HN13.out).mono ?_); rintro e w3 ⟨rfl, hk⟩; have K3 := Aside0.mk hk.k; clear hk) | (go_at_call 89; (with_reducible refine (ks_call IHk.out.block_ H14.out HL3.out K3.out).mono ?_); rintro e w4 ⟨A15, c15, rfl, ht, hk⟩; have K4 := Aside0.mk hk.k; have T15 := Aside0.mk ht; clear ht hk) | (go_at_call 88; refine (rd_of1 K4.out GL.out T15.out).mono ?_; rintro e w5 ⟨A90, c90, rfl, ht, hk⟩; have T90 := Aside0.mk ht; have K5 := Aside0.mk hk; clear ht hk))
                                        go_ret
                                        exact PostR.ok_ T90.out K5.out
                                      · have H14 := Aside0.mk h1
                                        clear h1
                                        go_enter Try.func126, Try.ntmps126
                                        go_upto_region 4 with (fail)
                                        obtain ⟨b1, hbb⟩ : ∃ b, b = w.heap.size := ⟨_, rfl⟩
                                        obtain ⟨w1, hww⟩ : ∃ W : World, W = w.alloc (.cells #[.int .u8 x.f0, .string x.f1, .int .i64 x.f2, .int .i64 x.f3] 33 (0, 0)) := ⟨_, rfl⟩
                                        have K1 := Aside0.mk (show Keeps w0 w w1 g _ size _ by rw [hww]; exact K0.out.alloc _)
                                        have X1 := Aside0.mk (show w1.heap[b1]? = some (.cells #[.int .u8 x.f0, .string x.f1, .int .i64 x.f2, .int .i64 x.f3] 33 (0, 0)) by rw [hww, hbb]; exact blk_new _ _)
                                        have Y1 := Aside0.mk (show g < b1 by rw [hbb]; exact K0.out.i.lt)
                                        rw [← hww, ← hbb]
                                        clear hww hbb
                                        have hx0 : w1.cell? ⟨b1, 0, none⟩ = some (.int .u8 x.f0) := (blk_cell X1.out 0).trans rfl
                                        have hx1 : w1.cell? ⟨b1, 1, none⟩ = some (.string x.f1) := (blk_cell X1.out 1).trans rfl
                                        have hx2 : w1.cell? ⟨b1, 2, none⟩ = some (.int .i64 x.f2) := (blk_cell X1.out 2).trans rfl
                                        clear hx1 hx2
                                        go_wp2_with (first | (go_at_call 107; (with_reducible refine (ks_mine K1.out HN0.out).mono ?_); rintro e w2 ⟨rfl, hk⟩; have K2 := Aside0.mk hk.k; clear hk) | (go_at_call 99; (with_reducible refine (ks_has_f (⟨#[110, 111, 110, 101]⟩ : ByteArray) K2.out HN1.out).mono ?_); rintro e w' ⟨rfl, rfl⟩) | (go_at_call 99; (with_reducible refine (ks_has_f (⟨#[116, 114, 117, 101]⟩ : ByteArray) K2.out HN2.out).mono ?_); rintro e w' ⟨rfl, rfl⟩) | (go_at_call 99; (with_reducible refine (ks_has_f (⟨#[102, 97, 108, 115, 101]⟩ : ByteArray) K2.out HN3.out).mono ?_); rintro e w' ⟨rfl, rfl⟩) | (go_at_call 99; (with_reducible refine (ks_has_f (⟨#[118, 101, 114, 115, 105, 111, 110]⟩ : ByteArray) K2.out HN4.out).mono ?_); rintro e w' ⟨rfl, rfl⟩) | (go_at_call 99; (with_reducible refine (ks_has_f (⟨#[91]⟩ : ByteArray) K2.out HN5.out).mono ?_); rintro e w' ⟨rfl, rfl⟩) | (go_at_call 99; (with_reducible refine (ks_has_f (⟨#[40]⟩ : ByteArray) K2.out HN6.out).mono ?_); rintro e w' ⟨rfl, rfl⟩) | (go_at_call 99; (with_reducible refine (ks_has_f (⟨#[108, 101, 110]⟩ : ByteArray) K2.out HN7.out).mono ?_); rintro e w' ⟨rfl, rfl⟩) | (go_at_call 99; (with_reducible refine (ks_has_f (⟨#[114, 101]⟩ : ByteArray) K2.out HN8.out).mono ?_); rintro e w' ⟨rfl, rfl⟩) | (go_at_call 99; (with_reducible refine (ks_has_f (⟨#[105, 109]⟩ : ByteArray) K2.out HN9.out).mono ?_); rintro e w' ⟨rfl, rfl⟩) | (go_at_call 99; (with_reducible refine (ks_has_f (⟨#[99, 111, 110, 106]⟩ : ByteArray) K2.out HN10.out).mono ?_); rintro e w' ⟨rfl, rfl⟩) | (go_at_call 99; (with_reducible refine (ks_has_f (⟨#[116, 105, 109, 101, 114]⟩ : ByteArray) K2.out HN11.out).mono ?_); rintro e w' ⟨rfl, rfl⟩) | (go_at_call 99; (with_reducible refine (ks_has_f (⟨#[110, 117, 109]⟩ : ByteArray) K2.out HN12.out).mono ?_); rintro e w' ⟨rfl, rfl⟩) | (go_at_call 99; (with_reducible refine (ks_has_t (⟨#[102, 111, 114, 107]⟩ : ByteArray) K2.out HN13.out).mono ?_); rintro e w3 ⟨rfl, hk⟩; have K3 := Aside0.mk hk.k; clear hk) | (go_at_call 89; (with_reducible refine (ks_call_bad IHk.out.block_ H14.out HL3.out K3.out).mono ?_); rintro e w' ⟨rfl, hb⟩))
                                        exact ⟨rfl, rfl, hb⟩
                                    · clear hr; have hr := hq; clear hq; have HN13 := Aside0.mk (Bool.eq_false_iff.2 hn)
                                      clear hn
                                      rcases ite_inv hr with ⟨hn, hq⟩ | ⟨hn, hq⟩
                                      · clear hr; have hr := hq; clear hq; skip
                                        try simp only [List.tail_cons] at hr
                                        have HN14 := Aside0.mk hn
                                        have HL3 := Aside0.mk (show r0.length ≤ 100000 by have := HL2.out; rw [List.length_cons] at this; omega)
                                        clear hn
                                        rcases ownS_inv hr with ⟨x15, m15, rfl, hn, hr⟩ | ⟨hn, rfl⟩
                                        · have HN15 := Aside0.mk hn
                                          have HL4 := Aside0.mk (show m15.length ≤ 100000 by have := HL3.out; rw [List.length_cons] at this; omega)
                                          clear hn
                                          obtain rfl := Option.some.inj hr
                                          clear hr
                                          go_enter Try.func126, Try.ntmps126
                                          go_upto_region 4 with (fail)
                                          obtain ⟨b1, hbb⟩ : ∃ b, b = w.heap.size := ⟨_, rfl⟩
                                          obtain ⟨w1, hww⟩ : ∃ W : World, W = w.alloc (.cells #[.int .u8 x.f0, .string x.f1, .int .i64 x.f2, .int .i64 x.f3] 33 (0, 0)) := ⟨_, rfl⟩
                                          have K1 := Aside0.mk (show Keeps w0 w w1 g _ size _ by rw [hww]; exact K0.out.alloc _)
                                          have X1 := Aside0.mk (show w1.heap[b1]? = some (.cells #[.int .u8 x.f0, .string x.f1, .int .i64 x.f2, .int .i64 x.f3] 33 (0, 0)) by rw [hww, hbb]; exact blk_new _ _)
                                          have Y1 := Aside0.mk (show g < b1 by rw [hbb]; exact K0.out.i.lt)
                                          rw [← hww, ← hbb]
                                          clear hww hbb
                                          have hx0 : w1.cell? ⟨b1, 0, none⟩ = some (.int .u8 x.f0) := (blk_cell X1.out 0).trans rfl
                                          have hx1 : w1.cell? ⟨b1, 1, none⟩ = some (.string x.f1) := (blk_cell X1.out 1).trans rfl
                                          have hx2 : w1.cell? ⟨b1, 2, none⟩ = some (.int .i64 x.f2) := (blk_cell X1.out 2).trans rfl
                                          clear hx1 hx2
                                          go_wp2_with (first | (go_at_call 107; (with_reducible refine (ks_mine K1.out HN0.out).mono ?_); rintro e w2 ⟨rfl, hk⟩; have K2 := Aside0.mk hk.k; clear hk) | (go_at_call 99; (with_reducible refine (ks_has_f (⟨#[110, 111, 110, 101]⟩ : ByteArray) K2.out HN1.out).mono ?_); rintro e w' ⟨rfl, rfl⟩) | (go_at_call 99; (with_reducible refine (ks_has_f (⟨#[116, 114, 117, 101]⟩ : ByteArray) K2.out HN2.out).mono ?_); rintro e w' ⟨rfl, rfl⟩) | (go_at_call 99; (with_reducible refine (ks_has_f (⟨#[102, 97, 108, 115, 101]⟩ : ByteArray) K2.out HN3.out).mono ?_); rintro e w' ⟨rfl, rfl⟩) | (go_at_call 99; (with_reducible refine (ks_has_f (⟨#[118, 101, 114, 115, 105, 111, 110]⟩ : ByteArray) K2.out HN4.out).mono ?_); rintro e w' ⟨rfl, rfl⟩) | (go_at_call 99; (with_reducible refine (ks_has_f (⟨#[91]⟩ : ByteArray) K2.out HN5.out).mono ?_); rintro e w' ⟨rfl, rfl⟩) | (go_at_call 99; (with_reducible refine (ks_has_f (⟨#[40]⟩ : ByteArray) K2.out HN6.out).mono ?_); rintro e w' ⟨rfl, rfl⟩) | (go_at_call 99; (with_reducible refine (ks_has_f (⟨#[108, 101, 110]⟩ : ByteArray) K2.out HN7.out).mono ?_); rintro e w' ⟨rfl, rfl⟩) | (go_at_call 99; (with_reducible refine (ks_has_f (⟨#[114, 101]⟩ : ByteArray) K2.out HN8.out).mono ?_); rintro e w' ⟨rfl, rfl⟩) | (go_at_call 99; (with_reducible refine (ks_has_f (⟨#[105, 109]⟩ : ByteArray) K2.out HN9.out).mono ?_); rintro e w' ⟨rfl, rfl⟩) | (go_at_call 99; (with_reducible refine (ks_has_f (⟨#[99, 111, 110, 106]⟩ : ByteArray) K2.out HN10.out).mono ?_); rintro e w' ⟨rfl, rfl⟩) | (go_at_call 99; (with_reducible refine (ks_has_f (⟨#[116, 105, 109, 101, 114]⟩ : ByteArray) K2.out HN11.out).mono ?_); rintro e w' ⟨rfl, rfl⟩) | (go_at_call 99; (with_reducible refine (ks_has_f (⟨#[110, 117, 109]⟩ : ByteArray) K2.out HN12.out).mono ?_); rintro e w' ⟨rfl, rfl⟩) | (go_at_call 99; (with_reducible refine (ks_has_f (⟨#[102, 111, 114, 107]⟩ : ByteArray) K2.out HN13.out).mono ?_); rintro e w' ⟨rfl, rfl⟩) | (go_at_call 99; (with_reducible refine (ks_has_t (⟨#[116, 97, 107, 101]⟩ : ByteArray) K2.out HN14.out).mono ?_); rintro e w3 ⟨rfl, hk⟩; have K3 := Aside0.mk hk.k; clear hk) | (go_at_call 85; (with_reducible refine (ks_own_t K3.out HN15.out).mono ?_); rintro e w4 ⟨rfl, hk⟩; have K4 := Aside0.mk hk.k; clear hk) | ((with_reducible refine gate_dst (N := 155) rfl ?_); refine Kd.R_lit k43 _ 43 ?hg (N := 155) ?hd (xs := ([(⟨56, 0, 0, x15.f1⟩ : Twg)] : List Twg)) (inner := [.int .u8 56, .int .i64 0, .int .i64 0, .string x15.f1]) (ok := fun _ => True) (okp := fun _ => True) ?hr ?hp (fun _ hk => hk) trivial (Below.refl _ _) (Nat.le_refl _) (by simp) ?_; (case hd => rfl); (case hg => rfl); (case hr => first | (go_simp; done) | (go_simp; rfl)); (case hp => exact (Reps.c4 (show Kd.M k43 _ _ _ (⟨56, 0, 0, x15.f1⟩ : Twg) [.int .u8 56, .int .i64 0, .int .i64 0, .string x15.f1] from (k43_mkM _ _ _ (⟨56, 0, 0, x15.f1⟩ : Twg))) (Reps.none _ _))); intro v0 w5 ho hb _ _; have T0 := Aside0.mk (Kd.R_lower ho K4.out.grows); have K5 := Aside0.mk (K4.out.below hb); clear ho hb))
                                          go_ret
                                          exact PostR.ok_ (Tr.one T0.out) K5.out
                                        · have HN15 := Aside0.mk hn
                                          clear hn
                                          go_enter Try.func126, Try.ntmps126
                                          go_upto_region 4 with (fail)
                                          obtain ⟨b1, hbb⟩ : ∃ b, b = w.heap.size := ⟨_, rfl⟩
                                          obtain ⟨w1, hww⟩ : ∃ W : World, W = w.alloc (.cells #[.int .u8 x.f0, .string x.f1, .int .i64 x.f2, .int .i64 x.f3] 33 (0, 0)) := ⟨_, rfl⟩
                                          have K1 := Aside0.mk (show Keeps w0 w w1 g _ size _ by rw [hww]; exact K0.out.alloc _)
                                          have X1 := Aside0.mk (show w1.heap[b1]? = some (.cells #[.int .u8 x.f0, .string x.f1, .int .i64 x.f2, .int .i64 x.f3] 33 (0, 0)) by rw [hww, hbb]; exact blk_new _ _)
                                          have Y1 := Aside0.mk (show g < b1 by rw [hbb]; exact K0.out.i.lt)
                                          rw [← hww, ← hbb]
                                          clear hww hbb
                                          have hx0 : w1.cell? ⟨b1, 0, none⟩ = some (.int .u8 x.f0) := (blk_cell X1.out 0).trans rfl
                                          have hx1 : w1.cell? ⟨b1, 1, none⟩ = some (.string x.f1) := (blk_cell X1.out 1).trans rfl
                                          have hx2 : w1.cell? ⟨b1, 2, none⟩ = some (.int .i64 x.f2) := (blk_cell X1.out 2).trans rfl
                                          clear hx1 hx2
                                          go_wp2_with (first | (go_at_call 107; (with_reducible refine (ks_mine K1.out HN0.out).mono ?_); rintro e w2 ⟨rfl, hk⟩; have K2 := Aside0.mk hk.k; clear hk) | (go_at_call 99; (with_reducible refine (ks_has_f (⟨#[110, 111, 110, 101]⟩ : ByteArray) K2.out HN1.out).mono ?_); rintro e w' ⟨rfl, rfl⟩) | (go_at_call 99; (with_reducible refine (ks_has_f (⟨#[116, 114, 117, 101]⟩ : ByteArray) K2.out HN2.out).mono ?_); rintro e w' ⟨rfl, rfl⟩) | (go_at_call 99; (with_reducible refine (ks_has_f (⟨#[102, 97, 108, 115, 101]⟩ : ByteArray) K2.out HN3.out).mono ?_); rintro e w' ⟨rfl, rfl⟩) | (go_at_call 99; (with_reducible refine (ks_has_f (⟨#[118, 101, 114, 115, 105, 111, 110]⟩ : ByteArray) K2.out HN4.out).mono ?_); rintro e w' ⟨rfl, rfl⟩) | (go_at_call 99; (with_reducible refine (ks_has_f (⟨#[91]⟩ : ByteArray) K2.out HN5.out).mono ?_); rintro e w' ⟨rfl, rfl⟩) | (go_at_call 99; (with_reducible refine (ks_has_f (⟨#[40]⟩ : ByteArray) K2.out HN6.out).mono ?_); rintro e w' ⟨rfl, rfl⟩) | (go_at_call 99; (with_reducible refine (ks_has_f (⟨#[108, 101, 110]⟩ : ByteArray) K2.out HN7.out).mono ?_); rintro e w' ⟨rfl, rfl⟩) | (go_at_call 99; (with_reducible refine (ks_has_f (⟨#[114, 101]⟩ : ByteArray) K2.out HN8.out).mono ?_); rintro e w' ⟨rfl, rfl⟩) | (go_at_call 99; (with_reducible refine (ks_has_f (⟨#[105, 109]⟩ : ByteArray) K2.out HN9.out).mono ?_); rintro e w' ⟨rfl, rfl⟩) | (go_at_call 99; (with_reducible refine (ks_has_f (⟨#[99, 111, 110, 106]⟩ : ByteArray) K2.out HN10.out).mono ?_); rintro e w' ⟨rfl, rfl⟩) | (go_at_call 99; (with_reducible refine (ks_has_f (⟨#[116, 105, 109, 101, 114]⟩ : ByteArray) K2.out HN11.out).mono ?_); rintro e w' ⟨rfl, rfl⟩) | (go_at_call 99; (with_reducible refine (ks_has_f (⟨#[110, 117, 109]⟩ : ByteArray) K2.out HN12.out).mono ?_); rintro e w' ⟨rfl, rfl⟩) | (go_at_call 99; (with_reducible refine (ks_has_f (⟨#[102, 111, 114, 107]⟩ : ByteArray) K2.out HN13.out).mono ?_); rintro e w' ⟨rfl, rfl⟩) | (go_at_call 99; (with_reducible refine (ks_has_t (⟨#[116, 97, 107, 101]⟩ : ByteArray) K2.out HN14.out).mono ?_); rintro e w3 ⟨rfl, hk⟩; have K3 := Aside0.mk hk.k; clear hk) | (go_at_call 85; (with_reducible refine (ks_own_f K3.out HN15.out).mono ?_); rintro e w' ⟨rfl, hb⟩))
                                          exact ⟨rfl, rfl, hb⟩
                                      · clear hr; have hr := hq; clear hq; have HN14 := Aside0.mk (Bool.eq_false_iff.2 hn)
                                        clear hn
                                        rcases ite_inv hr with ⟨hn, hq⟩ | ⟨hn, hq⟩
                                        · clear hr; have hr := hq; clear hq
                                          try simp only [List.tail_cons] at hr
                                          have HN15 := Aside0.mk hn
                                          clear hn
                                          have HL3 := Aside0.mk HL2.out
                                          have HC := Aside0.mk (isB_ne (s' := (⟨#[99, 104, 105, 108, 100]⟩ : ByteArray)) HN15.out (by kernel_rfl))
                                          have HL4 := Aside0.mk (show r0.length ≤ 100000 by have := HL2.out; rw [List.length_cons] at this; omega)
                                          rcases ownS_inv hr with ⟨x16, m16, rfl, hn, hq⟩ | ⟨hn, rfl⟩
                                          · clear hr; have hr := hq; clear hq; have HN16 := Aside0.mk hn
                                            have HL6 := Aside0.mk (show m16.length ≤ 100000 by have := HL4.out; rw [List.length_cons] at this; omega)
                                            clear hn
                                            rcases mustS_inv hr with ⟨x17, m17, rfl, hn, hr⟩ | ⟨hn, rfl⟩
                                            · have HN17 := Aside0.mk hn
                                              have HL7 := Aside0.mk (show m17.length ≤ 100000 by have := HL6.out; rw [List.length_cons] at this; omega)
                                              clear hn
                                              rcases ite_inv hr with ⟨hn, hq⟩ | ⟨hn, hq⟩
                                              · clear hr; have hr := hq; clear hq; obtain ⟨x18, m18, rfl⟩ := isB_cons hn
                                                try simp only [List.tail_cons] at hr
                                                have HN18 := Aside0.mk hn
                                                clear hn
                                                obtain rfl := Option.some.inj hr
                                                clear hr
                                                go_enter Try.func126, Try.ntmps126
                                                go_upto_region 4 with (fail)
                                                obtain ⟨b1, hbb⟩ : ∃ b, b = w.heap.size := ⟨_, rfl⟩
                                                obtain ⟨w1, hww⟩ : ∃ W : World, W = w.alloc (.cells #[.int .u8 x.f0, .string x.f1, .int .i64 x.f2, .int .i64 x.f3] 33 (0, 0)) := ⟨_, rfl⟩
                                                have K1 := Aside0.mk (show Keeps w0 w w1 g _ size _ by rw [hww]; exact K0.out.alloc _)
                                                have X1 := Aside0.mk (show w1.heap[b1]? = some (.cells #[.int .u8 x.f0, .string x.f1, .int .i64 x.f2, .int .i64 x.f3] 33 (0, 0)) by rw [hww, hbb]; exact blk_new _ _)
                                                have Y1 := Aside0.mk (show g < b1 by rw [hbb]; exact K0.out.i.lt)
                                                rw [← hww, ← hbb]
                                                clear hww hbb
                                                have hx0 : w1.cell? ⟨b1, 0, none⟩ = some (.int .u8 x.f0) := (blk_cell X1.out 0).trans rfl
                                                have hx1 : w1.cell? ⟨b1, 1, none⟩ = some (.string x.f1) := (blk_cell X1.out 1).trans rfl
                                                have hx2 : w1.cell? ⟨b1, 2, none⟩ = some (.int .i64 x.f2) := (blk_cell X1.out 2).trans rfl
                                                clear hx1 hx2
                                                go_upto_region 51 with (first | (go_at_call 107; (with_reducible refine (ks_mine K1.out HN0.out).mono ?_); rintro e w2 ⟨rfl, hk⟩; have K2 := Aside0.mk hk.k; clear hk) | (go_at_call 99; (with_reducible refine (ks_has_f (⟨#[110, 111, 110, 101]⟩ : ByteArray) K2.out HN1.out).mono ?_); rintro e w' ⟨rfl, rfl⟩) | (go_at_call 99; (with_reducible refine (ks_has_f (⟨#[116, 114, 117, 101]⟩ : ByteArray) K2.out HN2.out).mono ?_); rintro e w' ⟨rfl, rfl⟩) | (go_at_call 99; (with_reducible refine (ks_has_f (⟨#[102, 97, 108, 115, 101]⟩ : ByteArray) K2.out HN3.out).mono ?_); rintro e w' ⟨rfl, rfl⟩) | (go_at_call 99; (with_reducible refine (ks_has_f (⟨#[118, 101, 114, 115, 105, 111, 110]⟩ : ByteArray) K2.out HN4.out).mono ?_); rintro e w' ⟨rfl, rfl⟩) | (go_at_call 99; (with_reducible refine (ks_has_f (⟨#[91]⟩ : ByteArray) K2.out HN5.out).mono ?_); rintro e w' ⟨rfl, rfl⟩) | (go_at_call 99; (with_reducible refine (ks_has_f (⟨#[40]⟩ : ByteArray) K2.out HN6.out).mono ?_); rintro e w' ⟨rfl, rfl⟩) | (go_at_call 99; (with_reducible refine (ks_has_f (⟨#[108, 101, 110]⟩ : ByteArray) K2.out HN7.out).mono ?_); rintro e w' ⟨rfl, rfl⟩) | (go_at_call 99; (with_reducible refine (ks_has_f (⟨#[114, 101]⟩ : ByteArray) K2.out HN8.out).mono ?_); rintro e w' ⟨rfl, rfl⟩) | (go_at_call 99; (with_reducible refine (ks_has_f (⟨#[105, 109]⟩ : ByteArray) K2.out HN9.out).mono ?_); rintro e w' ⟨rfl, rfl⟩) | (go_at_call 99; (with_reducible refine (ks_has_f (⟨#[99, 111, 110, 106]⟩ : ByteArray) K2.out HN10.out).mono ?_); rintro e w' ⟨rfl, rfl⟩) | (go_at_call 99; (with_reducible refine (ks_has_f (⟨#[116, 105, 109, 101, 114]⟩ : ByteArray) K2.out HN11.out).mono ?_); rintro e w' ⟨rfl, rfl⟩) | (go_at_call 99; (with_reducible refine (ks_has_f (⟨#[110, 117, 109]⟩ : ByteArray) K2.out HN12.out).mono ?_); rintro e w' ⟨rfl, rfl⟩) | (go_at_call 99; (with_reducible refine (ks_has_f (⟨#[102, 111, 114, 107]⟩ : ByteArray) K2.out HN13.out).mono ?_); rintro e w' ⟨rfl, rfl⟩) | (go_at_call 99; (with_reducible refine (ks_has_f (⟨#[116, 97, 107, 101]⟩ : ByteArray) K2.out HN14.out).mono ?_); rintro e w' ⟨rfl, rfl⟩) | (go_at_call 111; (with_reducible refine (ks_is (⟨#[99, 97, 108, 108]⟩ : ByteArray) K2.out HN15.out).mono ?_); rintro e w' ⟨rfl, rfl⟩))
                                                obtain ⟨b2, hbb⟩ : ∃ b, b = w2.heap.size := ⟨_, rfl⟩
                                                obtain ⟨w3, hww⟩ : ∃ W : World, W = w2.alloc (.cells #[.int .u8 50, .int .i64 0, .int .i64 0, .string ⟨#[]⟩] 43 (0, 0)) := ⟨_, rfl⟩
                                                have K3 := Aside0.mk (show Keeps w0 w w3 g _ size _ by rw [hww]; exact K2.out.alloc _)
                                                have X2 := Aside0.mk (show w3.heap[b2]? = some (.cells #[.int .u8 50, .int .i64 0, .int .i64 0, .string ⟨#[]⟩] 43 (0, 0)) by rw [hww, hbb]; exact blk_new _ _)
                                                have Y2 := Aside0.mk (show g < b2 by rw [hbb]; exact K2.out.i.lt)
                                                have Z2 := Aside0.mk (show w.heap.size ≤ b2 by rw [hbb]; exact K2.out.grows)
                                                rw [← hww, ← hbb]
                                                clear hww hbb
                                                go_upto_region 55 with (first | (go_at_call 99; (with_reducible refine (ks_has_f (⟨#[99, 104, 105, 108, 100]⟩ : ByteArray) K3.out HC.out).mono ?_); rintro e w' ⟨rfl, rfl⟩) | (go_at_call 84; (with_reducible refine (ks_must_t (⟨#[99, 97, 108, 108]⟩ : ByteArray) K3.out HN15.out).mono ?_); rintro e w4 ⟨rfl, hk⟩; have K4 := Aside0.mk hk.k; replace X2 := Aside0.mk (hk.b.blk X2.out (by have := Y2.out; omega) (by simp)); clear hk) | (go_at_call 85; (with_reducible refine (ks_own_t K4.out HN16.out).mono ?_); rintro e w5 ⟨rfl, hk⟩; have K5 := Aside0.mk hk.k; replace X2 := Aside0.mk (hk.b.blk X2.out (by have := Y2.out; omega) (by simp)); have hcS : w5.cell? ⟨b2, 3, none⟩ = some (.string ⟨#[]⟩) := (blk_cell X2.out 3).trans rfl; have hfS := blk_frozen X2.out 3; clear hk))
                                                obtain ⟨w6, hww⟩ : ∃ W : World, W = w5.setCell ⟨b2, 3, none⟩ (.string x16.f1) := ⟨_, rfl⟩
                                                have K6 := Aside0.mk (show Keeps w0 w w6 g _ size _ by rw [hww]; exact K5.out.own GL.out ((Below.refl _ _).setCell Z2.out _))
                                                replace X2 := Aside0.mk (show w6.heap[b2]? = some (.cells #[.int .u8 50, .int .i64 0, .int .i64 0, .string x16.f1] 43 (0, 0)) by rw [hww]; exact blk_set X2.out 3 _)
                                                rw [← hww]
                                                clear hww hcS hfS
                                                go_upto_region 56 with (first | (go_at_call 84; (with_reducible refine (ks_must_t (⟨#[40]⟩ : ByteArray) K6.out HN17.out).mono ?_); rintro e w7 ⟨rfl, hk⟩; have K7 := Aside0.mk hk.k; replace X2 := Aside0.mk (hk.b.blk X2.out (by have := Y2.out; omega) (by simp)); clear hk))
                                                have HSK : Aside0 (∀ W' : World, KeepBut w7 W' g none → W'.cell? ⟨b2, 0, none⟩ = some (.int .u8 50) ∧ W'.cell? ⟨b2, 1, none⟩ = some (.int .i64 0) ∧ W'.cell? ⟨b2, 2, none⟩ = some (.int .i64 0) ∧ W'.cell? ⟨b2, 3, none⟩ = some (.string x16.f1)) := ⟨fun W' hk => by have h := hk.blk X2.out (by have := Y2.out; omega) (by simp); exact ⟨(blk_cell h 0).trans rfl, (blk_cell h 1).trans rfl, (blk_cell h 2).trans rfl, (blk_cell h 3).trans rfl⟩⟩
                                                have KD := Aside0.mk (Keeps.drew (Keeps.refl K7.out.i K7.out.b))
                                                have GD := Aside0.mk K7.out.i.lt
                                                go_region_held3 (fun W' => W'.cell? ⟨b2, 0, none⟩ = some (.int .u8 50) ∧ W'.cell? ⟨b2, 1, none⟩ = some (.int .i64 0) ∧ W'.cell? ⟨b2, 2, none⟩ = some (.int .i64 0) ∧ W'.cell? ⟨b2, 3, none⟩ = some (.string x16.f1)) (first | exact HSK.out _ (KeepBut.refl _ _ _) | exact HSK.out _ (keep_drew (KeepBut.refl _ _ _)) | exact HSK.out _ K90.out.k | exact HSK.out _ K91.out.k) (first | (go_at_call 86; (with_reducible refine (rd_listm_nil (⟨#[41]⟩ : ByteArray) KD.out HN18.out).mono ?_); rintro e w90 ⟨rfl, hk⟩; have K90 := Aside0.mk hk.k; clear hk) | (go_at_call 88; refine (rd_of_row (ts := []) (A := none) (c := 0) K90.out GD.out (Sr.nil _ _) (by simp)).mono ?_; rintro e w91 ⟨A91, c91, rfl, ht, hk⟩; have T91 := Aside0.mk ht; have K91 := Aside0.mk hk; clear ht hk))
                                                go_wp2
                                                go_ret
                                                exact PostR.ok_ (T91.out.lower K7.out.grows) (K7.out.then_ K91.out)
                                              · clear hr; have hr := hq; clear hq; have HN18 := Aside0.mk (Bool.eq_false_iff.2 hn)
                                                clear hn
                                                rcases andThen_inv hr with ⟨ps, m18, g9, h1, hq⟩ | ⟨m18, h1, rfl⟩
                                                · have H18 := Aside0.mk h1
                                                  have HP := Aside0.mk (show ps.length ≤ 100000 by have := (list_sh h1).2; have := HL7.out; omega)
                                                  obtain rfl := Option.some.inj hq
                                                  clear h1 hr hq
                                                  go_enter Try.func126, Try.ntmps126
                                                  go_upto_region 4 with (fail)
                                                  obtain ⟨b1, hbb⟩ : ∃ b, b = w.heap.size := ⟨_, rfl⟩
                                                  obtain ⟨w1, hww⟩ : ∃ W : World, W = w.alloc (.cells #[.int .u8 x.f0, .string x.f1, .int .i64 x.f2, .int .i64 x.f3] 33 (0, 0)) := ⟨_, rfl⟩
                                                  have K1 := Aside0.mk (show Keeps w0 w w1 g _ size _ by rw [hww]; exact K0.out.alloc _)
                                                  have X1 := Aside0.mk (show w1.heap[b1]? = some (.cells #[.int .u8 x.f0, .string x.f1, .int .i64 x.f2, .int .i64 x.f3] 33 (0, 0)) by rw [hww, hbb]; exact blk_new _ _)
                                                  have Y1 := Aside0.mk (show g < b1 by rw [hbb]; exact K0.out.i.lt)
                                                  rw [← hww, ← hbb]
                                                  clear hww hbb
                                                  have hx0 : w1.cell? ⟨b1, 0, none⟩ = some (.int .u8 x.f0) := (blk_cell X1.out 0).trans rfl
                                                  have hx1 : w1.cell? ⟨b1, 1, none⟩ = some (.string x.f1) := (blk_cell X1.out 1).trans rfl
                                                  have hx2 : w1.cell? ⟨b1, 2, none⟩ = some (.int .i64 x.f2) := (blk_cell X1.out 2).trans rfl
                                                  clear hx1 hx2
                                                  go_upto_region 51 with (first | (go_at_call 107; (with_reducible refine (ks_mine K1.out HN0.out).mono ?_); rintro e w2 ⟨rfl, hk⟩; have K2 := Aside0.mk hk.k; clear hk) | (go_at_call 99; (with_reducible refine (ks_has_f (⟨#[110, 111, 110, 101]⟩ : ByteArray) K2.out HN1.out).mono ?_); rintro e w' ⟨rfl, rfl⟩) | (go_at_call 99; (with_reducible refine (ks_has_f (⟨#[116, 114, 117, 101]⟩ : ByteArray) K2.out HN2.out).mono ?_); rintro e w' ⟨rfl, rfl⟩) | (go_at_call 99; (with_reducible refine (ks_has_f (⟨#[102, 97, 108, 115, 101]⟩ : ByteArray) K2.out HN3.out).mono ?_); rintro e w' ⟨rfl, rfl⟩) | (go_at_call 99; (with_reducible refine (ks_has_f (⟨#[118, 101, 114, 115, 105, 111, 110]⟩ : ByteArray) K2.out HN4.out).mono ?_); rintro e w' ⟨rfl, rfl⟩) | (go_at_call 99; (with_reducible refine (ks_has_f (⟨#[91]⟩ : ByteArray) K2.out HN5.out).mono ?_); rintro e w' ⟨rfl, rfl⟩) | (go_at_call 99; (with_reducible refine (ks_has_f (⟨#[40]⟩ : ByteArray) K2.out HN6.out).mono ?_); rintro e w' ⟨rfl, rfl⟩) | (go_at_call 99; (with_reducible refine (ks_has_f (⟨#[108, 101, 110]⟩ : ByteArray) K2.out HN7.out).mono ?_); rintro e w' ⟨rfl, rfl⟩) | (go_at_call 99; (with_reducible refine (ks_has_f (⟨#[114, 101]⟩ : ByteArray) K2.out HN8.out).mono ?_); rintro e w' ⟨rfl, rfl⟩) | (go_at_call 99; (with_reducible refine (ks_has_f (⟨#[105, 109]⟩ : ByteArray) K2.out HN9.out).mono ?_); rintro e w' ⟨rfl, rfl⟩) | (go_at_call 99; (with_reducible refine (ks_has_f (⟨#[99, 111, 110, 106]⟩ : ByteArray) K2.out HN10.out).mono ?_); rintro e w' ⟨rfl, rfl⟩) | (go_at_call 99; (with_reducible refine (ks_has_f (⟨#[116, 105, 109, 101, 114]⟩ : ByteArray) K2.out HN11.out).mono ?_); rintro e w' ⟨rfl, rfl⟩) | (go_at_call 99; (with_reducible refine (ks_has_f (⟨#[110, 117, 109]⟩ : ByteArray) K2.out HN12.out).mono ?_); rintro e w' ⟨rfl, rfl⟩) | (go_at_call 99; (with_reducible refine (ks_has_f (⟨#[102, 111, 114, 107]⟩ : ByteArray) K2.out HN13.out).mono ?_); rintro e w' ⟨rfl, rfl⟩) | (go_at_call 99; (with_reducible refine (ks_has_f (⟨#[116, 97, 107, 101]⟩ : ByteArray) K2.out HN14.out).mono ?_); rintro e w' ⟨rfl, rfl⟩) | (go_at_call 111; (with_reducible refine (ks_is (⟨#[99, 97, 108, 108]⟩ : ByteArray) K2.out HN15.out).mono ?_); rintro e w' ⟨rfl, rfl⟩))
                                                  obtain ⟨b2, hbb⟩ : ∃ b, b = w2.heap.size := ⟨_, rfl⟩
                                                  obtain ⟨w3, hww⟩ : ∃ W : World, W = w2.alloc (.cells #[.int .u8 50, .int .i64 0, .int .i64 0, .string ⟨#[]⟩] 43 (0, 0)) := ⟨_, rfl⟩
                                                  have K3 := Aside0.mk (show Keeps w0 w w3 g _ size _ by rw [hww]; exact K2.out.alloc _)
                                                  have X2 := Aside0.mk (show w3.heap[b2]? = some (.cells #[.int .u8 50, .int .i64 0, .int .i64 0, .string ⟨#[]⟩] 43 (0, 0)) by rw [hww, hbb]; exact blk_new _ _)
                                                  have Y2 := Aside0.mk (show g < b2 by rw [hbb]; exact K2.out.i.lt)
                                                  have Z2 := Aside0.mk (show w.heap.size ≤ b2 by rw [hbb]; exact K2.out.grows)
                                                  rw [← hww, ← hbb]
                                                  clear hww hbb
                                                  go_upto_region 55 with (first | (go_at_call 99; (with_reducible refine (ks_has_f (⟨#[99, 104, 105, 108, 100]⟩ : ByteArray) K3.out HC.out).mono ?_); rintro e w' ⟨rfl, rfl⟩) | (go_at_call 84; (with_reducible refine (ks_must_t (⟨#[99, 97, 108, 108]⟩ : ByteArray) K3.out HN15.out).mono ?_); rintro e w4 ⟨rfl, hk⟩; have K4 := Aside0.mk hk.k; replace X2 := Aside0.mk (hk.b.blk X2.out (by have := Y2.out; omega) (by simp)); clear hk) | (go_at_call 85; (with_reducible refine (ks_own_t K4.out HN16.out).mono ?_); rintro e w5 ⟨rfl, hk⟩; have K5 := Aside0.mk hk.k; replace X2 := Aside0.mk (hk.b.blk X2.out (by have := Y2.out; omega) (by simp)); have hcS : w5.cell? ⟨b2, 3, none⟩ = some (.string ⟨#[]⟩) := (blk_cell X2.out 3).trans rfl; have hfS := blk_frozen X2.out 3; clear hk))
                                                  obtain ⟨w6, hww⟩ : ∃ W : World, W = w5.setCell ⟨b2, 3, none⟩ (.string x16.f1) := ⟨_, rfl⟩
                                                  have K6 := Aside0.mk (show Keeps w0 w w6 g _ size _ by rw [hww]; exact K5.out.own GL.out ((Below.refl _ _).setCell Z2.out _))
                                                  replace X2 := Aside0.mk (show w6.heap[b2]? = some (.cells #[.int .u8 50, .int .i64 0, .int .i64 0, .string x16.f1] 43 (0, 0)) by rw [hww]; exact blk_set X2.out 3 _)
                                                  rw [← hww]
                                                  clear hww hcS hfS
                                                  go_upto_region 56 with (first | (go_at_call 84; (with_reducible refine (ks_must_t (⟨#[40]⟩ : ByteArray) K6.out HN17.out).mono ?_); rintro e w7 ⟨rfl, hk⟩; have K7 := Aside0.mk hk.k; replace X2 := Aside0.mk (hk.b.blk X2.out (by have := Y2.out; omega) (by simp)); clear hk))
                                                  have HSK : Aside0 (∀ W' : World, KeepBut w7 W' g none → W'.cell? ⟨b2, 0, none⟩ = some (.int .u8 50) ∧ W'.cell? ⟨b2, 1, none⟩ = some (.int .i64 0) ∧ W'.cell? ⟨b2, 2, none⟩ = some (.int .i64 0) ∧ W'.cell? ⟨b2, 3, none⟩ = some (.string x16.f1)) := ⟨fun W' hk => by have h := hk.blk X2.out (by have := Y2.out; omega) (by simp); exact ⟨(blk_cell h 0).trans rfl, (blk_cell h 1).trans rfl, (blk_cell h 2).trans rfl, (blk_cell h 3).trans rfl⟩⟩
                                                  have KD := Aside0.mk (Keeps.drew (Keeps.refl K7.out.i K7.out.b))
                                                  have GD := Aside0.mk K7.out.i.lt
                                                  go_region_held3 (fun W' => W'.cell? ⟨b2, 0, none⟩ = some (.int .u8 50) ∧ W'.cell? ⟨b2, 1, none⟩ = some (.int .i64 0) ∧ W'.cell? ⟨b2, 2, none⟩ = some (.int .i64 0) ∧ W'.cell? ⟨b2, 3, none⟩ = some (.string x16.f1)) (first | exact HSK.out _ (KeepBut.refl _ _ _) | exact HSK.out _ (keep_drew (KeepBut.refl _ _ _)) | exact HSK.out _ K90.out.k | exact HSK.out _ K91.out.k) (first | (go_at_call 86; (with_reducible refine (ks_list IHm.out (⟨#[41]⟩ : ByteArray) H18.out HL7.out KD.out HN18.out).mono ?_); rintro e w90 ⟨A80, c80, rfl, hs, hk⟩; have S80 := Aside0.mk hs; have K90 := Aside0.mk hk.k; clear hs hk) | (go_at_call 88; refine (rd_of_row (ts := ps) (A := A80) (c := c80) K90.out GD.out S80.out (by have := HP.out; omega)).mono ?_; rintro e w91 ⟨A91, c91, rfl, ht, hk⟩; have T91 := Aside0.mk ht; have K91 := Aside0.mk hk; clear ht hk))
                                                  go_wp2
                                                  go_ret
                                                  exact PostR.ok_ (T91.out.lower K7.out.grows) (K7.out.then_ K91.out)
                                                · have H18 := Aside0.mk h1
                                                  clear h1 hr
                                                  go_enter Try.func126, Try.ntmps126
                                                  go_upto_region 4 with (fail)
                                                  obtain ⟨b1, hbb⟩ : ∃ b, b = w.heap.size := ⟨_, rfl⟩
                                                  obtain ⟨w1, hww⟩ : ∃ W : World, W = w.alloc (.cells #[.int .u8 x.f0, .string x.f1, .int .i64 x.f2, .int .i64 x.f3] 33 (0, 0)) := ⟨_, rfl⟩
                                                  have K1 := Aside0.mk (show Keeps w0 w w1 g _ size _ by rw [hww]; exact K0.out.alloc _)
                                                  have X1 := Aside0.mk (show w1.heap[b1]? = some (.cells #[.int .u8 x.f0, .string x.f1, .int .i64 x.f2, .int .i64 x.f3] 33 (0, 0)) by rw [hww, hbb]; exact blk_new _ _)
                                                  have Y1 := Aside0.mk (show g < b1 by rw [hbb]; exact K0.out.i.lt)
                                                  rw [← hww, ← hbb]
                                                  clear hww hbb
                                                  have hx0 : w1.cell? ⟨b1, 0, none⟩ = some (.int .u8 x.f0) := (blk_cell X1.out 0).trans rfl
                                                  have hx1 : w1.cell? ⟨b1, 1, none⟩ = some (.string x.f1) := (blk_cell X1.out 1).trans rfl
                                                  have hx2 : w1.cell? ⟨b1, 2, none⟩ = some (.int .i64 x.f2) := (blk_cell X1.out 2).trans rfl
                                                  clear hx1 hx2
                                                  go_upto_region 51 with (first | (go_at_call 107; (with_reducible refine (ks_mine K1.out HN0.out).mono ?_); rintro e w2 ⟨rfl, hk⟩; have K2 := Aside0.mk hk.k; clear hk) | (go_at_call 99; (with_reducible refine (ks_has_f (⟨#[110, 111, 110, 101]⟩ : ByteArray) K2.out HN1.out).mono ?_); rintro e w' ⟨rfl, rfl⟩) | (go_at_call 99; (with_reducible refine (ks_has_f (⟨#[116, 114, 117, 101]⟩ : ByteArray) K2.out HN2.out).mono ?_); rintro e w' ⟨rfl, rfl⟩) | (go_at_call 99; (with_reducible refine (ks_has_f (⟨#[102, 97, 108, 115, 101]⟩ : ByteArray) K2.out HN3.out).mono ?_); rintro e w' ⟨rfl, rfl⟩) | (go_at_call 99; (with_reducible refine (ks_has_f (⟨#[118, 101, 114, 115, 105, 111, 110]⟩ : ByteArray) K2.out HN4.out).mono ?_); rintro e w' ⟨rfl, rfl⟩) | (go_at_call 99; (with_reducible refine (ks_has_f (⟨#[91]⟩ : ByteArray) K2.out HN5.out).mono ?_); rintro e w' ⟨rfl, rfl⟩) | (go_at_call 99; (with_reducible refine (ks_has_f (⟨#[40]⟩ : ByteArray) K2.out HN6.out).mono ?_); rintro e w' ⟨rfl, rfl⟩) | (go_at_call 99; (with_reducible refine (ks_has_f (⟨#[108, 101, 110]⟩ : ByteArray) K2.out HN7.out).mono ?_); rintro e w' ⟨rfl, rfl⟩) | (go_at_call 99; (with_reducible refine (ks_has_f (⟨#[114, 101]⟩ : ByteArray) K2.out HN8.out).mono ?_); rintro e w' ⟨rfl, rfl⟩) | (go_at_call 99; (with_reducible refine (ks_has_f (⟨#[105, 109]⟩ : ByteArray) K2.out HN9.out).mono ?_); rintro e w' ⟨rfl, rfl⟩) | (go_at_call 99; (with_reducible refine (ks_has_f (⟨#[99, 111, 110, 106]⟩ : ByteArray) K2.out HN10.out).mono ?_); rintro e w' ⟨rfl, rfl⟩) | (go_at_call 99; (with_reducible refine (ks_has_f (⟨#[116, 105, 109, 101, 114]⟩ : ByteArray) K2.out HN11.out).mono ?_); rintro e w' ⟨rfl, rfl⟩) | (go_at_call 99; (with_reducible refine (ks_has_f (⟨#[110, 117, 109]⟩ : ByteArray) K2.out HN12.out).mono ?_); rintro e w' ⟨rfl, rfl⟩) | (go_at_call 99; (with_reducible refine (ks_has_f (⟨#[102, 111, 114, 107]⟩ : ByteArray) K2.out HN13.out).mono ?_); rintro e w' ⟨rfl, rfl⟩) | (go_at_call 99; (with_reducible refine (ks_has_f (⟨#[116, 97, 107, 101]⟩ : ByteArray) K2.out HN14.out).mono ?_); rintro e w' ⟨rfl, rfl⟩) | (go_at_call 111; (with_reducible refine (ks_is (⟨#[99, 97, 108, 108]⟩ : ByteArray) K2.out HN15.out).mono ?_); rintro e w' ⟨rfl, rfl⟩))
                                                  obtain ⟨b2, hbb⟩ : ∃ b, b = w2.heap.size := ⟨_, rfl⟩
                                                  obtain ⟨w3, hww⟩ : ∃ W : World, W = w2.alloc (.cells #[.int .u8 50, .int .i64 0, .int .i64 0, .string ⟨#[]⟩] 43 (0, 0)) := ⟨_, rfl⟩
                                                  have K3 := Aside0.mk (show Keeps w0 w w3 g _ size _ by rw [hww]; exact K2.out.alloc _)
                                                  have X2 := Aside0.mk (show w3.heap[b2]? = some (.cells #[.int .u8 50, .int .i64 0, .int .i64 0, .string ⟨#[]⟩] 43 (0, 0)) by rw [hww, hbb]; exact blk_new _ _)
                                                  have Y2 := Aside0.mk (show g < b2 by rw [hbb]; exact K2.out.i.lt)
                                                  have Z2 := Aside0.mk (show w.heap.size ≤ b2 by rw [hbb]; exact K2.out.grows)
                                                  rw [← hww, ← hbb]
                                                  clear hww hbb
                                                  go_upto_region 55 with (first | (go_at_call 99; (with_reducible refine (ks_has_f (⟨#[99, 104, 105, 108, 100]⟩ : ByteArray) K3.out HC.out).mono ?_); rintro e w' ⟨rfl, rfl⟩) | (go_at_call 84; (with_reducible refine (ks_must_t (⟨#[99, 97, 108, 108]⟩ : ByteArray) K3.out HN15.out).mono ?_); rintro e w4 ⟨rfl, hk⟩; have K4 := Aside0.mk hk.k; replace X2 := Aside0.mk (hk.b.blk X2.out (by have := Y2.out; omega) (by simp)); clear hk) | (go_at_call 85; (with_reducible refine (ks_own_t K4.out HN16.out).mono ?_); rintro e w5 ⟨rfl, hk⟩; have K5 := Aside0.mk hk.k; replace X2 := Aside0.mk (hk.b.blk X2.out (by have := Y2.out; omega) (by simp)); have hcS : w5.cell? ⟨b2, 3, none⟩ = some (.string ⟨#[]⟩) := (blk_cell X2.out 3).trans rfl; have hfS := blk_frozen X2.out 3; clear hk))
                                                  obtain ⟨w6, hww⟩ : ∃ W : World, W = w5.setCell ⟨b2, 3, none⟩ (.string x16.f1) := ⟨_, rfl⟩
                                                  have K6 := Aside0.mk (show Keeps w0 w w6 g _ size _ by rw [hww]; exact K5.out.own GL.out ((Below.refl _ _).setCell Z2.out _))
                                                  replace X2 := Aside0.mk (show w6.heap[b2]? = some (.cells #[.int .u8 50, .int .i64 0, .int .i64 0, .string x16.f1] 43 (0, 0)) by rw [hww]; exact blk_set X2.out 3 _)
                                                  rw [← hww]
                                                  clear hww hcS hfS
                                                  go_upto_region 56 with (first | (go_at_call 84; (with_reducible refine (ks_must_t (⟨#[40]⟩ : ByteArray) K6.out HN17.out).mono ?_); rintro e w7 ⟨rfl, hk⟩; have K7 := Aside0.mk hk.k; replace X2 := Aside0.mk (hk.b.blk X2.out (by have := Y2.out; omega) (by simp)); clear hk))
                                                  have HSK : Aside0 (∀ W' : World, KeepBut w7 W' g none → W'.cell? ⟨b2, 0, none⟩ = some (.int .u8 50) ∧ W'.cell? ⟨b2, 1, none⟩ = some (.int .i64 0) ∧ W'.cell? ⟨b2, 2, none⟩ = some (.int .i64 0) ∧ W'.cell? ⟨b2, 3, none⟩ = some (.string x16.f1)) := ⟨fun W' hk => by have h := hk.blk X2.out (by have := Y2.out; omega) (by simp); exact ⟨(blk_cell h 0).trans rfl, (blk_cell h 1).trans rfl, (blk_cell h 2).trans rfl, (blk_cell h 3).trans rfl⟩⟩
                                                  have KD := Aside0.mk (Keeps.drew (Keeps.refl K7.out.i K7.out.b))
                                                  have GD := Aside0.mk K7.out.i.lt
                                                  obtain ⟨hc50, hc51, hc52, hc53⟩ := HSK.out _ (KeepBut.refl _ _ _)
                                                  go_region_held2 (fun W' => W'.cell? ⟨b2, 0, none⟩ = some (.int .u8 50) ∧ W'.cell? ⟨b2, 1, none⟩ = some (.int .i64 0) ∧ W'.cell? ⟨b2, 2, none⟩ = some (.int .i64 0) ∧ W'.cell? ⟨b2, 3, none⟩ = some (.string x16.f1)) (first | exact HX.out.elim | exact HSK.out _ (KeepBut.refl _ _ _) | exact HSK.out _ (keep_drew (KeepBut.refl _ _ _))) (first | (go_at_call 86; refine calls_dies (c := faultC m18 size) (R := fun w' => Below w0.heap.size w0 w') (ks_list_bad IHm.out (⟨#[41]⟩ : ByteArray) H18.out HL7.out KD.out HN18.out) ?hp ?_; (case hp => intro w' h; exact ⟨rfl, rfl, h⟩); intro A90 n90 c90 w90 hF; have HX := Aside0.mk hF; have hx0 : w90.cell? ⟨b2, 0, none⟩ = some (.int .u8 50) := hF.elim; have hx1 : w90.cell? ⟨b2, 1, none⟩ = some (.int .i64 0) := hF.elim; have hx2 : w90.cell? ⟨b2, 2, none⟩ = some (.int .i64 0) := hF.elim; have hx3 : w90.cell? ⟨b2, 3, none⟩ = some (.string x16.f1) := hF.elim; clear hF) | (go_at_call 88; refine calls_never HX.out ?_; intro A91 n91 c91 w91))
                                                  all_goals exact HX.out.elim
                                            · have HN17 := Aside0.mk hn
                                              clear hn
                                              go_enter Try.func126, Try.ntmps126
                                              go_upto_region 4 with (fail)
                                              obtain ⟨b1, hbb⟩ : ∃ b, b = w.heap.size := ⟨_, rfl⟩
                                              obtain ⟨w1, hww⟩ : ∃ W : World, W = w.alloc (.cells #[.int .u8 x.f0, .string x.f1, .int .i64 x.f2, .int .i64 x.f3] 33 (0, 0)) := ⟨_, rfl⟩
                                              have K1 := Aside0.mk (show Keeps w0 w w1 g _ size _ by rw [hww]; exact K0.out.alloc _)
                                              have X1 := Aside0.mk (show w1.heap[b1]? = some (.cells #[.int .u8 x.f0, .string x.f1, .int .i64 x.f2, .int .i64 x.f3] 33 (0, 0)) by rw [hww, hbb]; exact blk_new _ _)
                                              have Y1 := Aside0.mk (show g < b1 by rw [hbb]; exact K0.out.i.lt)
                                              rw [← hww, ← hbb]
                                              clear hww hbb
                                              have hx0 : w1.cell? ⟨b1, 0, none⟩ = some (.int .u8 x.f0) := (blk_cell X1.out 0).trans rfl
                                              have hx1 : w1.cell? ⟨b1, 1, none⟩ = some (.string x.f1) := (blk_cell X1.out 1).trans rfl
                                              have hx2 : w1.cell? ⟨b1, 2, none⟩ = some (.int .i64 x.f2) := (blk_cell X1.out 2).trans rfl
                                              clear hx1 hx2
                                              go_upto_region 51 with (first | (go_at_call 107; (with_reducible refine (ks_mine K1.out HN0.out).mono ?_); rintro e w2 ⟨rfl, hk⟩; have K2 := Aside0.mk hk.k; clear hk) | (go_at_call 99; (with_reducible refine (ks_has_f (⟨#[110, 111, 110, 101]⟩ : ByteArray) K2.out HN1.out).mono ?_); rintro e w' ⟨rfl, rfl⟩) | (go_at_call 99; (with_reducible refine (ks_has_f (⟨#[116, 114, 117, 101]⟩ : ByteArray) K2.out HN2.out).mono ?_); rintro e w' ⟨rfl, rfl⟩) | (go_at_call 99; (with_reducible refine (ks_has_f (⟨#[102, 97, 108, 115, 101]⟩ : ByteArray) K2.out HN3.out).mono ?_); rintro e w' ⟨rfl, rfl⟩) | (go_at_call 99; (with_reducible refine (ks_has_f (⟨#[118, 101, 114, 115, 105, 111, 110]⟩ : ByteArray) K2.out HN4.out).mono ?_); rintro e w' ⟨rfl, rfl⟩) | (go_at_call 99; (with_reducible refine (ks_has_f (⟨#[91]⟩ : ByteArray) K2.out HN5.out).mono ?_); rintro e w' ⟨rfl, rfl⟩) | (go_at_call 99; (with_reducible refine (ks_has_f (⟨#[40]⟩ : ByteArray) K2.out HN6.out).mono ?_); rintro e w' ⟨rfl, rfl⟩) | (go_at_call 99; (with_reducible refine (ks_has_f (⟨#[108, 101, 110]⟩ : ByteArray) K2.out HN7.out).mono ?_); rintro e w' ⟨rfl, rfl⟩) | (go_at_call 99; (with_reducible refine (ks_has_f (⟨#[114, 101]⟩ : ByteArray) K2.out HN8.out).mono ?_); rintro e w' ⟨rfl, rfl⟩) | (go_at_call 99; (with_reducible refine (ks_has_f (⟨#[105, 109]⟩ : ByteArray) K2.out HN9.out).mono ?_); rintro e w' ⟨rfl, rfl⟩) | (go_at_call 99; (with_reducible refine (ks_has_f (⟨#[99, 111, 110, 106]⟩ : ByteArray) K2.out HN10.out).mono ?_); rintro e w' ⟨rfl, rfl⟩) | (go_at_call 99; (with_reducible refine (ks_has_f (⟨#[116, 105, 109, 101, 114]⟩ : ByteArray) K2.out HN11.out).mono ?_); rintro e w' ⟨rfl, rfl⟩) | (go_at_call 99; (with_reducible refine (ks_has_f (⟨#[110, 117, 109]⟩ : ByteArray) K2.out HN12.out).mono ?_); rintro e w' ⟨rfl, rfl⟩) | (go_at_call 99; (with_reducible refine (ks_has_f (⟨#[102, 111, 114, 107]⟩ : ByteArray) K2.out HN13.out).mono ?_); rintro e w' ⟨rfl, rfl⟩) | (go_at_call 99; (with_reducible refine (ks_has_f (⟨#[116, 97, 107, 101]⟩ : ByteArray) K2.out HN14.out).mono ?_); rintro e w' ⟨rfl, rfl⟩) | (go_at_call 111; (with_reducible refine (ks_is (⟨#[99, 97, 108, 108]⟩ : ByteArray) K2.out HN15.out).mono ?_); rintro e w' ⟨rfl, rfl⟩))
                                              obtain ⟨b2, hbb⟩ : ∃ b, b = w2.heap.size := ⟨_, rfl⟩
                                              obtain ⟨w3, hww⟩ : ∃ W : World, W = w2.alloc (.cells #[.int .u8 50, .int .i64 0, .int .i64 0, .string ⟨#[]⟩] 43 (0, 0)) := ⟨_, rfl⟩
                                              have K3 := Aside0.mk (show Keeps w0 w w3 g _ size _ by rw [hww]; exact K2.out.alloc _)
                                              have X2 := Aside0.mk (show w3.heap[b2]? = some (.cells #[.int .u8 50, .int .i64 0, .int .i64 0, .string ⟨#[]⟩] 43 (0, 0)) by rw [hww, hbb]; exact blk_new _ _)
                                              have Y2 := Aside0.mk (show g < b2 by rw [hbb]; exact K2.out.i.lt)
                                              have Z2 := Aside0.mk (show w.heap.size ≤ b2 by rw [hbb]; exact K2.out.grows)
                                              rw [← hww, ← hbb]
                                              clear hww hbb
                                              go_upto_region 55 with (first | (go_at_call 99; (with_reducible refine (ks_has_f (⟨#[99, 104, 105, 108, 100]⟩ : ByteArray) K3.out HC.out).mono ?_); rintro e w' ⟨rfl, rfl⟩) | (go_at_call 84; (with_reducible refine (ks_must_t (⟨#[99, 97, 108, 108]⟩ : ByteArray) K3.out HN15.out).mono ?_); rintro e w4 ⟨rfl, hk⟩; have K4 := Aside0.mk hk.k; replace X2 := Aside0.mk (hk.b.blk X2.out (by have := Y2.out; omega) (by simp)); clear hk) | (go_at_call 85; (with_reducible refine (ks_own_t K4.out HN16.out).mono ?_); rintro e w5 ⟨rfl, hk⟩; have K5 := Aside0.mk hk.k; replace X2 := Aside0.mk (hk.b.blk X2.out (by have := Y2.out; omega) (by simp)); have hcS : w5.cell? ⟨b2, 3, none⟩ = some (.string ⟨#[]⟩) := (blk_cell X2.out 3).trans rfl; have hfS := blk_frozen X2.out 3; clear hk))
                                              obtain ⟨w6, hww⟩ : ∃ W : World, W = w5.setCell ⟨b2, 3, none⟩ (.string x16.f1) := ⟨_, rfl⟩
                                              have K6 := Aside0.mk (show Keeps w0 w w6 g _ size _ by rw [hww]; exact K5.out.own GL.out ((Below.refl _ _).setCell Z2.out _))
                                              replace X2 := Aside0.mk (show w6.heap[b2]? = some (.cells #[.int .u8 50, .int .i64 0, .int .i64 0, .string x16.f1] 43 (0, 0)) by rw [hww]; exact blk_set X2.out 3 _)
                                              rw [← hww]
                                              clear hww hcS hfS
                                              go_wp2_with (first | (go_at_call 84; (with_reducible refine (ks_must_f (⟨#[40]⟩ : ByteArray) K6.out HN17.out).mono ?_); rintro e w' ⟨rfl, hb⟩))
                                              exact ⟨rfl, rfl, hb⟩
                                          · have HN16 := Aside0.mk hn
                                            clear hn
                                            go_enter Try.func126, Try.ntmps126
                                            go_upto_region 4 with (fail)
                                            obtain ⟨b1, hbb⟩ : ∃ b, b = w.heap.size := ⟨_, rfl⟩
                                            obtain ⟨w1, hww⟩ : ∃ W : World, W = w.alloc (.cells #[.int .u8 x.f0, .string x.f1, .int .i64 x.f2, .int .i64 x.f3] 33 (0, 0)) := ⟨_, rfl⟩
                                            have K1 := Aside0.mk (show Keeps w0 w w1 g _ size _ by rw [hww]; exact K0.out.alloc _)
                                            have X1 := Aside0.mk (show w1.heap[b1]? = some (.cells #[.int .u8 x.f0, .string x.f1, .int .i64 x.f2, .int .i64 x.f3] 33 (0, 0)) by rw [hww, hbb]; exact blk_new _ _)
                                            have Y1 := Aside0.mk (show g < b1 by rw [hbb]; exact K0.out.i.lt)
                                            rw [← hww, ← hbb]
                                            clear hww hbb
                                            have hx0 : w1.cell? ⟨b1, 0, none⟩ = some (.int .u8 x.f0) := (blk_cell X1.out 0).trans rfl
                                            have hx1 : w1.cell? ⟨b1, 1, none⟩ = some (.string x.f1) := (blk_cell X1.out 1).trans rfl
                                            have hx2 : w1.cell? ⟨b1, 2, none⟩ = some (.int .i64 x.f2) := (blk_cell X1.out 2).trans rfl
                                            clear hx1 hx2
                                            go_upto_region 51 with (first | (go_at_call 107; (with_reducible refine (ks_mine K1.out HN0.out).mono ?_); rintro e w2 ⟨rfl, hk⟩; have K2 := Aside0.mk hk.k; clear hk) | (go_at_call 99; (with_reducible refine (ks_has_f (⟨#[110, 111, 110, 101]⟩ : ByteArray) K2.out HN1.out).mono ?_); rintro e w' ⟨rfl, rfl⟩) | (go_at_call 99; (with_reducible refine (ks_has_f (⟨#[116, 114, 117, 101]⟩ : ByteArray) K2.out HN2.out).mono ?_); rintro e w' ⟨rfl, rfl⟩) | (go_at_call 99; (with_reducible refine (ks_has_f (⟨#[102, 97, 108, 115, 101]⟩ : ByteArray) K2.out HN3.out).mono ?_); rintro e w' ⟨rfl, rfl⟩) | (go_at_call 99; (with_reducible refine (ks_has_f (⟨#[118, 101, 114, 115, 105, 111, 110]⟩ : ByteArray) K2.out HN4.out).mono ?_); rintro e w' ⟨rfl, rfl⟩) | (go_at_call 99; (with_reducible refine (ks_has_f (⟨#[91]⟩ : ByteArray) K2.out HN5.out).mono ?_); rintro e w' ⟨rfl, rfl⟩) | (go_at_call 99; (with_reducible refine (ks_has_f (⟨#[40]⟩ : ByteArray) K2.out HN6.out).mono ?_); rintro e w' ⟨rfl, rfl⟩) | (go_at_call 99; (with_reducible refine (ks_has_f (⟨#[108, 101, 110]⟩ : ByteArray) K2.out HN7.out).mono ?_); rintro e w' ⟨rfl, rfl⟩) | (go_at_call 99; (with_reducible refine (ks_has_f (⟨#[114, 101]⟩ : ByteArray) K2.out HN8.out).mono ?_); rintro e w' ⟨rfl, rfl⟩) | (go_at_call 99; (with_reducible refine (ks_has_f (⟨#[105, 109]⟩ : ByteArray) K2.out HN9.out).mono ?_); rintro e w' ⟨rfl, rfl⟩) | (go_at_call 99; (with_reducible refine (ks_has_f (⟨#[99, 111, 110, 106]⟩ : ByteArray) K2.out HN10.out).mono ?_); rintro e w' ⟨rfl, rfl⟩) | (go_at_call 99; (with_reducible refine (ks_has_f (⟨#[116, 105, 109, 101, 114]⟩ : ByteArray) K2.out HN11.out).mono ?_); rintro e w' ⟨rfl, rfl⟩) | (go_at_call 99; (with_reducible refine (ks_has_f (⟨#[110, 117, 109]⟩ : ByteArray) K2.out HN12.out).mono ?_); rintro e w' ⟨rfl, rfl⟩) | (go_at_call 99; (with_reducible refine (ks_has_f (⟨#[102, 111, 114, 107]⟩ : ByteArray) K2.out HN13.out).mono ?_); rintro e w' ⟨rfl, rfl⟩) | (go_at_call 99; (with_reducible refine (ks_has_f (⟨#[116, 97, 107, 101]⟩ : ByteArray) K2.out HN14.out).mono ?_); rintro e w' ⟨rfl, rfl⟩) | (go_at_call 111; (with_reducible refine (ks_is (⟨#[99, 97, 108, 108]⟩ : ByteArray) K2.out HN15.out).mono ?_); rintro e w' ⟨rfl, rfl⟩))
                                            obtain ⟨b2, hbb⟩ : ∃ b, b = w2.heap.size := ⟨_, rfl⟩
                                            obtain ⟨w3, hww⟩ : ∃ W : World, W = w2.alloc (.cells #[.int .u8 50, .int .i64 0, .int .i64 0, .string ⟨#[]⟩] 43 (0, 0)) := ⟨_, rfl⟩
                                            have K3 := Aside0.mk (show Keeps w0 w w3 g _ size _ by rw [hww]; exact K2.out.alloc _)
                                            have X2 := Aside0.mk (show w3.heap[b2]? = some (.cells #[.int .u8 50, .int .i64 0, .int .i64 0, .string ⟨#[]⟩] 43 (0, 0)) by rw [hww, hbb]; exact blk_new _ _)
                                            have Y2 := Aside0.mk (show g < b2 by rw [hbb]; exact K2.out.i.lt)
                                            have Z2 := Aside0.mk (show w.heap.size ≤ b2 by rw [hbb]; exact K2.out.grows)
                                            rw [← hww, ← hbb]
                                            clear hww hbb
                                            go_wp2_with (first | (go_at_call 99; (with_reducible refine (ks_has_f (⟨#[99, 104, 105, 108, 100]⟩ : ByteArray) K3.out HC.out).mono ?_); rintro e w' ⟨rfl, rfl⟩) | (go_at_call 84; (with_reducible refine (ks_must_t (⟨#[99, 97, 108, 108]⟩ : ByteArray) K3.out HN15.out).mono ?_); rintro e w4 ⟨rfl, hk⟩; have K4 := Aside0.mk hk.k; replace X2 := Aside0.mk (hk.b.blk X2.out (by have := Y2.out; omega) (by simp)); clear hk) | (go_at_call 85; (with_reducible refine (ks_own_f K4.out HN16.out).mono ?_); rintro e w' ⟨rfl, hb⟩))
                                            exact ⟨rfl, rfl, hb⟩
                                        · clear hr; have hr := hq; clear hq; have HN15 := Aside0.mk (Bool.eq_false_iff.2 hn)
                                          clear hn
                                          rcases ite_inv hr with ⟨hn, hq⟩ | ⟨hn, hq⟩
                                          · clear hr; have hr := hq; clear hq
                                            try simp only [List.tail_cons] at hr
                                            have HN16 := Aside0.mk hn
                                            clear hn
                                            have HL3 := Aside0.mk HL2.out
                                            have HL5 := Aside0.mk (show r0.length ≤ 100000 by have := HL2.out; rw [List.length_cons] at this; omega)
                                            rcases ownS_inv hr with ⟨x17, m17, rfl, hn, hq⟩ | ⟨hn, rfl⟩
                                            · clear hr; have hr := hq; clear hq; have HN17 := Aside0.mk hn
                                              have HL7 := Aside0.mk (show m17.length ≤ 100000 by have := HL5.out; rw [List.length_cons] at this; omega)
                                              clear hn
                                              rcases mustS_inv hr with ⟨x18, m18, rfl, hn, hr⟩ | ⟨hn, rfl⟩
                                              · have HN18 := Aside0.mk hn
                                                have HL8 := Aside0.mk (show m18.length ≤ 100000 by have := HL7.out; rw [List.length_cons] at this; omega)
                                                clear hn
                                                rcases ite_inv hr with ⟨hn, hq⟩ | ⟨hn, hq⟩
                                                · clear hr; have hr := hq; clear hq; obtain ⟨x19, m19, rfl⟩ := isB_cons hn
                                                  try simp only [List.tail_cons] at hr
                                                  have HN19 := Aside0.mk hn
                                                  clear hn
                                                  obtain rfl := Option.some.inj hr
                                                  clear hr
                                                  go_enter Try.func126, Try.ntmps126
                                                  go_upto_region 4 with (fail)
                                                  obtain ⟨b1, hbb⟩ : ∃ b, b = w.heap.size := ⟨_, rfl⟩
                                                  obtain ⟨w1, hww⟩ : ∃ W : World, W = w.alloc (.cells #[.int .u8 x.f0, .string x.f1, .int .i64 x.f2, .int .i64 x.f3] 33 (0, 0)) := ⟨_, rfl⟩
                                                  have K1 := Aside0.mk (show Keeps w0 w w1 g _ size _ by rw [hww]; exact K0.out.alloc _)
                                                  have X1 := Aside0.mk (show w1.heap[b1]? = some (.cells #[.int .u8 x.f0, .string x.f1, .int .i64 x.f2, .int .i64 x.f3] 33 (0, 0)) by rw [hww, hbb]; exact blk_new _ _)
                                                  have Y1 := Aside0.mk (show g < b1 by rw [hbb]; exact K0.out.i.lt)
                                                  rw [← hww, ← hbb]
                                                  clear hww hbb
                                                  have hx0 : w1.cell? ⟨b1, 0, none⟩ = some (.int .u8 x.f0) := (blk_cell X1.out 0).trans rfl
                                                  have hx1 : w1.cell? ⟨b1, 1, none⟩ = some (.string x.f1) := (blk_cell X1.out 1).trans rfl
                                                  have hx2 : w1.cell? ⟨b1, 2, none⟩ = some (.int .i64 x.f2) := (blk_cell X1.out 2).trans rfl
                                                  clear hx1 hx2
                                                  go_upto_region 51 with (first | (go_at_call 107; (with_reducible refine (ks_mine K1.out HN0.out).mono ?_); rintro e w2 ⟨rfl, hk⟩; have K2 := Aside0.mk hk.k; clear hk) | (go_at_call 99; (with_reducible refine (ks_has_f (⟨#[110, 111, 110, 101]⟩ : ByteArray) K2.out HN1.out).mono ?_); rintro e w' ⟨rfl, rfl⟩) | (go_at_call 99; (with_reducible refine (ks_has_f (⟨#[116, 114, 117, 101]⟩ : ByteArray) K2.out HN2.out).mono ?_); rintro e w' ⟨rfl, rfl⟩) | (go_at_call 99; (with_reducible refine (ks_has_f (⟨#[102, 97, 108, 115, 101]⟩ : ByteArray) K2.out HN3.out).mono ?_); rintro e w' ⟨rfl, rfl⟩) | (go_at_call 99; (with_reducible refine (ks_has_f (⟨#[118, 101, 114, 115, 105, 111, 110]⟩ : ByteArray) K2.out HN4.out).mono ?_); rintro e w' ⟨rfl, rfl⟩) | (go_at_call 99; (with_reducible refine (ks_has_f (⟨#[91]⟩ : ByteArray) K2.out HN5.out).mono ?_); rintro e w' ⟨rfl, rfl⟩) | (go_at_call 99; (with_reducible refine (ks_has_f (⟨#[40]⟩ : ByteArray) K2.out HN6.out).mono ?_); rintro e w' ⟨rfl, rfl⟩) | (go_at_call 99; (with_reducible refine (ks_has_f (⟨#[108, 101, 110]⟩ : ByteArray) K2.out HN7.out).mono ?_); rintro e w' ⟨rfl, rfl⟩) | (go_at_call 99; (with_reducible refine (ks_has_f (⟨#[114, 101]⟩ : ByteArray) K2.out HN8.out).mono ?_); rintro e w' ⟨rfl, rfl⟩) | (go_at_call 99; (with_reducible refine (ks_has_f (⟨#[105, 109]⟩ : ByteArray) K2.out HN9.out).mono ?_); rintro e w' ⟨rfl, rfl⟩) | (go_at_call 99; (with_reducible refine (ks_has_f (⟨#[99, 111, 110, 106]⟩ : ByteArray) K2.out HN10.out).mono ?_); rintro e w' ⟨rfl, rfl⟩) | (go_at_call 99; (with_reducible refine (ks_has_f (⟨#[116, 105, 109, 101, 114]⟩ : ByteArray) K2.out HN11.out).mono ?_); rintro e w' ⟨rfl, rfl⟩) | (go_at_call 99; (with_reducible refine (ks_has_f (⟨#[110, 117, 109]⟩ : ByteArray) K2.out HN12.out).mono ?_); rintro e w' ⟨rfl, rfl⟩) | (go_at_call 99; (with_reducible refine (ks_has_f (⟨#[102, 111, 114, 107]⟩ : ByteArray) K2.out HN13.out).mono ?_); rintro e w' ⟨rfl, rfl⟩) | (go_at_call 99; (with_reducible refine (ks_has_f (⟨#[116, 97, 107, 101]⟩ : ByteArray) K2.out HN14.out).mono ?_); rintro e w' ⟨rfl, rfl⟩) | (go_at_call 111; (with_reducible refine (ks_is (⟨#[99, 97, 108, 108]⟩ : ByteArray) K2.out HN15.out).mono ?_); rintro e w' ⟨rfl, rfl⟩) | (go_at_call 111; (with_reducible refine (ks_is (⟨#[99, 104, 105, 108, 100]⟩ : ByteArray) K2.out HN16.out).mono ?_); rintro e w' ⟨rfl, rfl⟩))
                                                  obtain ⟨b2, hbb⟩ : ∃ b, b = w2.heap.size := ⟨_, rfl⟩
                                                  obtain ⟨w3, hww⟩ : ∃ W : World, W = w2.alloc (.cells #[.int .u8 50, .int .i64 0, .int .i64 0, .string ⟨#[]⟩] 43 (0, 0)) := ⟨_, rfl⟩
                                                  have K3 := Aside0.mk (show Keeps w0 w w3 g _ size _ by rw [hww]; exact K2.out.alloc _)
                                                  have X2 := Aside0.mk (show w3.heap[b2]? = some (.cells #[.int .u8 50, .int .i64 0, .int .i64 0, .string ⟨#[]⟩] 43 (0, 0)) by rw [hww, hbb]; exact blk_new _ _)
                                                  have Y2 := Aside0.mk (show g < b2 by rw [hbb]; exact K2.out.i.lt)
                                                  have Z2 := Aside0.mk (show w.heap.size ≤ b2 by rw [hbb]; exact K2.out.grows)
                                                  rw [← hww, ← hbb]
                                                  clear hww hbb
                                                  go_upto_region 54 with (first | (go_at_call 99; (with_reducible refine (ks_has_t (⟨#[99, 104, 105, 108, 100]⟩ : ByteArray) K3.out HN16.out).mono ?_); rintro e w4 ⟨rfl, hk⟩; have K4 := Aside0.mk hk.k; replace X2 := Aside0.mk (hk.b.blk X2.out (by have := Y2.out; omega) (by simp)); have hcS : w4.cell? ⟨b2, 0, none⟩ = some (.int .u8 50) := (blk_cell X2.out 0).trans rfl; have hfS := blk_frozen X2.out 0; clear hk))
                                                  obtain ⟨w5, hww⟩ : ∃ W : World, W = w4.setCell ⟨b2, 0, none⟩ (.int .u8 51) := ⟨_, rfl⟩
                                                  have K5 := Aside0.mk (show Keeps w0 w w5 g _ size _ by rw [hww]; exact K4.out.own GL.out ((Below.refl _ _).setCell Z2.out _))
                                                  replace X2 := Aside0.mk (show w5.heap[b2]? = some (.cells #[.int .u8 51, .int .i64 0, .int .i64 0, .string ⟨#[]⟩] 43 (0, 0)) by rw [hww]; exact blk_set X2.out 0 _)
                                                  rw [← hww]
                                                  clear hww hcS hfS
                                                  go_upto_region 55 with (first | (go_at_call 85; (with_reducible refine (ks_own_t K5.out HN17.out).mono ?_); rintro e w6 ⟨rfl, hk⟩; have K6 := Aside0.mk hk.k; replace X2 := Aside0.mk (hk.b.blk X2.out (by have := Y2.out; omega) (by simp)); have hcS : w6.cell? ⟨b2, 3, none⟩ = some (.string ⟨#[]⟩) := (blk_cell X2.out 3).trans rfl; have hfS := blk_frozen X2.out 3; clear hk))
                                                  obtain ⟨w7, hww⟩ : ∃ W : World, W = w6.setCell ⟨b2, 3, none⟩ (.string x17.f1) := ⟨_, rfl⟩
                                                  have K7 := Aside0.mk (show Keeps w0 w w7 g _ size _ by rw [hww]; exact K6.out.own GL.out ((Below.refl _ _).setCell Z2.out _))
                                                  replace X2 := Aside0.mk (show w7.heap[b2]? = some (.cells #[.int .u8 51, .int .i64 0, .int .i64 0, .string x17.f1] 43 (0, 0)) by rw [hww]; exact blk_set X2.out 3 _)
                                                  rw [← hww]
                                                  clear hww hcS hfS
                                                  go_upto_region 56 with (first | (go_at_call 84; (with_reducible refine (ks_must_t (⟨#[40]⟩ : ByteArray) K7.out HN18.out).mono ?_); rintro e w8 ⟨rfl, hk⟩; have K8 := Aside0.mk hk.k; replace X2 := Aside0.mk (hk.b.blk X2.out (by have := Y2.out; omega) (by simp)); clear hk))
                                                  have HSK : Aside0 (∀ W' : World, KeepBut w8 W' g none → W'.cell? ⟨b2, 0, none⟩ = some (.int .u8 51) ∧ W'.cell? ⟨b2, 1, none⟩ = some (.int .i64 0) ∧ W'.cell? ⟨b2, 2, none⟩ = some (.int .i64 0) ∧ W'.cell? ⟨b2, 3, none⟩ = some (.string x17.f1)) := ⟨fun W' hk => by have h := hk.blk X2.out (by have := Y2.out; omega) (by simp); exact ⟨(blk_cell h 0).trans rfl, (blk_cell h 1).trans rfl, (blk_cell h 2).trans rfl, (blk_cell h 3).trans rfl⟩⟩
                                                  have KD := Aside0.mk (Keeps.drew (Keeps.refl K8.out.i K8.out.b))
                                                  have GD := Aside0.mk K8.out.i.lt
                                                  go_region_held3 (fun W' => W'.cell? ⟨b2, 0, none⟩ = some (.int .u8 51) ∧ W'.cell? ⟨b2, 1, none⟩ = some (.int .i64 0) ∧ W'.cell? ⟨b2, 2, none⟩ = some (.int .i64 0) ∧ W'.cell? ⟨b2, 3, none⟩ = some (.string x17.f1)) (first | exact HSK.out _ (KeepBut.refl _ _ _) | exact HSK.out _ (keep_drew (KeepBut.refl _ _ _)) | exact HSK.out _ K90.out.k | exact HSK.out _ K91.out.k) (first | (go_at_call 86; (with_reducible refine (rd_listm_nil (⟨#[41]⟩ : ByteArray) KD.out HN19.out).mono ?_); rintro e w90 ⟨rfl, hk⟩; have K90 := Aside0.mk hk.k; clear hk) | (go_at_call 88; refine (rd_of_row (ts := []) (A := none) (c := 0) K90.out GD.out (Sr.nil _ _) (by simp)).mono ?_; rintro e w91 ⟨A91, c91, rfl, ht, hk⟩; have T91 := Aside0.mk ht; have K91 := Aside0.mk hk; clear ht hk))
                                                  go_wp2
                                                  go_ret
                                                  exact PostR.ok_ (T91.out.lower K8.out.grows) (K8.out.then_ K91.out)
                                                · clear hr; have hr := hq; clear hq; have HN19 := Aside0.mk (Bool.eq_false_iff.2 hn)
                                                  clear hn
                                                  rcases andThen_inv hr with ⟨ps, m19, g9, h1, hq⟩ | ⟨m19, h1, rfl⟩
                                                  · have H19 := Aside0.mk h1
                                                    have HP := Aside0.mk (show ps.length ≤ 100000 by have := (list_sh h1).2; have := HL8.out; omega)
                                                    obtain rfl := Option.some.inj hq
                                                    clear h1 hr hq
                                                    go_enter Try.func126, Try.ntmps126
                                                    go_upto_region 4 with (fail)
                                                    obtain ⟨b1, hbb⟩ : ∃ b, b = w.heap.size := ⟨_, rfl⟩
                                                    obtain ⟨w1, hww⟩ : ∃ W : World, W = w.alloc (.cells #[.int .u8 x.f0, .string x.f1, .int .i64 x.f2, .int .i64 x.f3] 33 (0, 0)) := ⟨_, rfl⟩
                                                    have K1 := Aside0.mk (show Keeps w0 w w1 g _ size _ by rw [hww]; exact K0.out.alloc _)
                                                    have X1 := Aside0.mk (show w1.heap[b1]? = some (.cells #[.int .u8 x.f0, .string x.f1, .int .i64 x.f2, .int .i64 x.f3] 33 (0, 0)) by rw [hww, hbb]; exact blk_new _ _)
                                                    have Y1 := Aside0.mk (show g < b1 by rw [hbb]; exact K0.out.i.lt)
                                                    rw [← hww, ← hbb]
                                                    clear hww hbb
                                                    have hx0 : w1.cell? ⟨b1, 0, none⟩ = some (.int .u8 x.f0) := (blk_cell X1.out 0).trans rfl
                                                    have hx1 : w1.cell? ⟨b1, 1, none⟩ = some (.string x.f1) := (blk_cell X1.out 1).trans rfl
                                                    have hx2 : w1.cell? ⟨b1, 2, none⟩ = some (.int .i64 x.f2) := (blk_cell X1.out 2).trans rfl
                                                    clear hx1 hx2
                                                    go_upto_region 51 with (first | (go_at_call 107; (with_reducible refine (ks_mine K1.out HN0.out).mono ?_); rintro e w2 ⟨rfl, hk⟩; have K2 := Aside0.mk hk.k; clear hk) | (go_at_call 99; (with_reducible refine (ks_has_f (⟨#[110, 111, 110, 101]⟩ : ByteArray) K2.out HN1.out).mono ?_); rintro e w' ⟨rfl, rfl⟩) | (go_at_call 99; (with_reducible refine (ks_has_f (⟨#[116, 114, 117, 101]⟩ : ByteArray) K2.out HN2.out).mono ?_); rintro e w' ⟨rfl, rfl⟩) | (go_at_call 99; (with_reducible refine (ks_has_f (⟨#[102, 97, 108, 115, 101]⟩ : ByteArray) K2.out HN3.out).mono ?_); rintro e w' ⟨rfl, rfl⟩) | (go_at_call 99; (with_reducible refine (ks_has_f (⟨#[118, 101, 114, 115, 105, 111, 110]⟩ : ByteArray) K2.out HN4.out).mono ?_); rintro e w' ⟨rfl, rfl⟩) | (go_at_call 99; (with_reducible refine (ks_has_f (⟨#[91]⟩ : ByteArray) K2.out HN5.out).mono ?_); rintro e w' ⟨rfl, rfl⟩) | (go_at_call 99; (with_reducible refine (ks_has_f (⟨#[40]⟩ : ByteArray) K2.out HN6.out).mono ?_); rintro e w' ⟨rfl, rfl⟩) | (go_at_call 99; (with_reducible refine (ks_has_f (⟨#[108, 101, 110]⟩ : ByteArray) K2.out HN7.out).mono ?_); rintro e w' ⟨rfl, rfl⟩) | (go_at_call 99; (with_reducible refine (ks_has_f (⟨#[114, 101]⟩ : ByteArray) K2.out HN8.out).mono ?_); rintro e w' ⟨rfl, rfl⟩) | (go_at_call 99; (with_reducible refine (ks_has_f (⟨#[105, 109]⟩ : ByteArray) K2.out HN9.out).mono ?_); rintro e w' ⟨rfl, rfl⟩) | (go_at_call 99; (with_reducible refine (ks_has_f (⟨#[99, 111, 110, 106]⟩ : ByteArray) K2.out HN10.out).mono ?_); rintro e w' ⟨rfl, rfl⟩) | (go_at_call 99; (with_reducible refine (ks_has_f (⟨#[116, 105, 109, 101, 114]⟩ : ByteArray) K2.out HN11.out).mono ?_); rintro e w' ⟨rfl, rfl⟩) | (go_at_call 99; (with_reducible refine (ks_has_f (⟨#[110, 117, 109]⟩ : ByteArray) K2.out HN12.out).mono ?_); rintro e w' ⟨rfl, rfl⟩) | (go_at_call 99; (with_reducible refine (ks_has_f (⟨#[102, 111, 114, 107]⟩ : ByteArray) K2.out HN13.out).mono ?_); rintro e w' ⟨rfl, rfl⟩) | (go_at_call 99; (with_reducible refine (ks_has_f (⟨#[116, 97, 107, 101]⟩ : ByteArray) K2.out HN14.out).mono ?_); rintro e w' ⟨rfl, rfl⟩) | (go_at_call 111; (with_reducible refine (ks_is (⟨#[99, 97, 108, 108]⟩ : ByteArray) K2.out HN15.out).mono ?_); rintro e w' ⟨rfl, rfl⟩) | (go_at_call 111; (with_reducible refine (ks_is (⟨#[99, 104, 105, 108, 100]⟩ : ByteArray) K2.out HN16.out).mono ?_); rintro e w' ⟨rfl, rfl⟩))
                                                    obtain ⟨b2, hbb⟩ : ∃ b, b = w2.heap.size := ⟨_, rfl⟩
                                                    obtain ⟨w3, hww⟩ : ∃ W : World, W = w2.alloc (.cells #[.int .u8 50, .int .i64 0, .int .i64 0, .string ⟨#[]⟩] 43 (0, 0)) := ⟨_, rfl⟩
                                                    have K3 := Aside0.mk (show Keeps w0 w w3 g _ size _ by rw [hww]; exact K2.out.alloc _)
                                                    have X2 := Aside0.mk (show w3.heap[b2]? = some (.cells #[.int .u8 50, .int .i64 0, .int .i64 0, .string ⟨#[]⟩] 43 (0, 0)) by rw [hww, hbb]; exact blk_new _ _)
                                                    have Y2 := Aside0.mk (show g < b2 by rw [hbb]; exact K2.out.i.lt)
                                                    have Z2 := Aside0.mk (show w.heap.size ≤ b2 by rw [hbb]; exact K2.out.grows)
                                                    rw [← hww, ← hbb]
                                                    clear hww hbb
                                                    go_upto_region 54 with (first | (go_at_call 99; (with_reducible refine (ks_has_t (⟨#[99, 104, 105, 108, 100]⟩ : ByteArray) K3.out HN16.out).mono ?_); rintro e w4 ⟨rfl, hk⟩; have K4 := Aside0.mk hk.k; replace X2 := Aside0.mk (hk.b.blk X2.out (by have := Y2.out; omega) (by simp)); have hcS : w4.cell? ⟨b2, 0, none⟩ = some (.int .u8 50) := (blk_cell X2.out 0).trans rfl; have hfS := blk_frozen X2.out 0; clear hk))
                                                    obtain ⟨w5, hww⟩ : ∃ W : World, W = w4.setCell ⟨b2, 0, none⟩ (.int .u8 51) := ⟨_, rfl⟩
                                                    have K5 := Aside0.mk (show Keeps w0 w w5 g _ size _ by rw [hww]; exact K4.out.own GL.out ((Below.refl _ _).setCell Z2.out _))
                                                    replace X2 := Aside0.mk (show w5.heap[b2]? = some (.cells #[.int .u8 51, .int .i64 0, .int .i64 0, .string ⟨#[]⟩] 43 (0, 0)) by rw [hww]; exact blk_set X2.out 0 _)
                                                    rw [← hww]
                                                    clear hww hcS hfS
                                                    go_upto_region 55 with (first | (go_at_call 85; (with_reducible refine (ks_own_t K5.out HN17.out).mono ?_); rintro e w6 ⟨rfl, hk⟩; have K6 := Aside0.mk hk.k; replace X2 := Aside0.mk (hk.b.blk X2.out (by have := Y2.out; omega) (by simp)); have hcS : w6.cell? ⟨b2, 3, none⟩ = some (.string ⟨#[]⟩) := (blk_cell X2.out 3).trans rfl; have hfS := blk_frozen X2.out 3; clear hk))
                                                    obtain ⟨w7, hww⟩ : ∃ W : World, W = w6.setCell ⟨b2, 3, none⟩ (.string x17.f1) := ⟨_, rfl⟩
                                                    have K7 := Aside0.mk (show Keeps w0 w w7 g _ size _ by rw [hww]; exact K6.out.own GL.out ((Below.refl _ _).setCell Z2.out _))
                                                    replace X2 := Aside0.mk (show w7.heap[b2]? = some (.cells #[.int .u8 51, .int .i64 0, .int .i64 0, .string x17.f1] 43 (0, 0)) by rw [hww]; exact blk_set X2.out 3 _)
                                                    rw [← hww]
                                                    clear hww hcS hfS
                                                    go_upto_region 56 with (first | (go_at_call 84; (with_reducible refine (ks_must_t (⟨#[40]⟩ : ByteArray) K7.out HN18.out).mono ?_); rintro e w8 ⟨rfl, hk⟩; have K8 := Aside0.mk hk.k; replace X2 := Aside0.mk (hk.b.blk X2.out (by have := Y2.out; omega) (by simp)); clear hk))
                                                    have HSK : Aside0 (∀ W' : World, KeepBut w8 W' g none → W'.cell? ⟨b2, 0, none⟩ = some (.int .u8 51) ∧ W'.cell? ⟨b2, 1, none⟩ = some (.int .i64 0) ∧ W'.cell? ⟨b2, 2, none⟩ = some (.int .i64 0) ∧ W'.cell? ⟨b2, 3, none⟩ = some (.string x17.f1)) := ⟨fun W' hk => by have h := hk.blk X2.out (by have := Y2.out; omega) (by simp); exact ⟨(blk_cell h 0).trans rfl, (blk_cell h 1).trans rfl, (blk_cell h 2).trans rfl, (blk_cell h 3).trans rfl⟩⟩
                                                    have KD := Aside0.mk (Keeps.drew (Keeps.refl K8.out.i K8.out.b))
                                                    have GD := Aside0.mk K8.out.i.lt
                                                    go_region_held3 (fun W' => W'.cell? ⟨b2, 0, none⟩ = some (.int .u8 51) ∧ W'.cell? ⟨b2, 1, none⟩ = some (.int .i64 0) ∧ W'.cell? ⟨b2, 2, none⟩ = some (.int .i64 0) ∧ W'.cell? ⟨b2, 3, none⟩ = some (.string x17.f1)) (first | exact HSK.out _ (KeepBut.refl _ _ _) | exact HSK.out _ (keep_drew (KeepBut.refl _ _ _)) | exact HSK.out _ K90.out.k | exact HSK.out _ K91.out.k) (first | (go_at_call 86; (with_reducible refine (ks_list IHm.out (⟨#[41]⟩ : ByteArray) H19.out HL8.out KD.out HN19.out).mono ?_); rintro e w90 ⟨A80, c80, rfl, hs, hk⟩; have S80 := Aside0.mk hs; have K90 := Aside0.mk hk.k; clear hs hk) | (go_at_call 88; refine (rd_of_row (ts := ps) (A := A80) (c := c80) K90.out GD.out S80.out (by have := HP.out; omega)).mono ?_; rintro e w91 ⟨A91, c91, rfl, ht, hk⟩; have T91 := Aside0.mk ht; have K91 := Aside0.mk hk; clear ht hk))
                                                    go_wp2
                                                    go_ret
                                                    exact PostR.ok_ (T91.out.lower K8.out.grows) (K8.out.then_ K91.out)
                                                  · have H19 := Aside0.mk h1
                                                    clear h1 hr
                                                    go_enter Try.func126, Try.ntmps126
                                                    go_upto_region 4 with (fail)
                                                    obtain ⟨b1, hbb⟩ : ∃ b, b = w.heap.size := ⟨_, rfl⟩
                                                    obtain ⟨w1, hww⟩ : ∃ W : World, W = w.alloc (.cells #[.int .u8 x.f0, .string x.f1, .int .i64 x.f2, .int .i64 x.f3] 33 (0, 0)) := ⟨_, rfl⟩
                                                    have K1 := Aside0.mk (show Keeps w0 w w1 g _ size _ by rw [hww]; exact K0.out.alloc _)
                                                    have X1 := Aside0.mk (show w1.heap[b1]? = some (.cells #[.int .u8 x.f0, .string x.f1, .int .i64 x.f2, .int .i64 x.f3] 33 (0, 0)) by rw [hww, hbb]; exact blk_new _ _)
                                                    have Y1 := Aside0.mk (show g < b1 by rw [hbb]; exact K0.out.i.lt)
                                                    rw [← hww, ← hbb]
                                                    clear hww hbb
                                                    have hx0 : w1.cell? ⟨b1, 0, none⟩ = some (.int .u8 x.f0) := (blk_cell X1.out 0).trans rfl
                                                    have hx1 : w1.cell? ⟨b1, 1, none⟩ = some (.string x.f1) := (blk_cell X1.out 1).trans rfl
                                                    have hx2 : w1.cell? ⟨b1, 2, none⟩ = some (.int .i64 x.f2) := (blk_cell X1.out 2).trans rfl
                                                    clear hx1 hx2
                                                    go_upto_region 51 with (first | (go_at_call 107; (with_reducible refine (ks_mine K1.out HN0.out).mono ?_); rintro e w2 ⟨rfl, hk⟩; have K2 := Aside0.mk hk.k; clear hk) | (go_at_call 99; (with_reducible refine (ks_has_f (⟨#[110, 111, 110, 101]⟩ : ByteArray) K2.out HN1.out).mono ?_); rintro e w' ⟨rfl, rfl⟩) | (go_at_call 99; (with_reducible refine (ks_has_f (⟨#[116, 114, 117, 101]⟩ : ByteArray) K2.out HN2.out).mono ?_); rintro e w' ⟨rfl, rfl⟩) | (go_at_call 99; (with_reducible refine (ks_has_f (⟨#[102, 97, 108, 115, 101]⟩ : ByteArray) K2.out HN3.out).mono ?_); rintro e w' ⟨rfl, rfl⟩) | (go_at_call 99; (with_reducible refine (ks_has_f (⟨#[118, 101, 114, 115, 105, 111, 110]⟩ : ByteArray) K2.out HN4.out).mono ?_); rintro e w' ⟨rfl, rfl⟩) | (go_at_call 99; (with_reducible refine (ks_has_f (⟨#[91]⟩ : ByteArray) K2.out HN5.out).mono ?_); rintro e w' ⟨rfl, rfl⟩) | (go_at_call 99; (with_reducible refine (ks_has_f (⟨#[40]⟩ : ByteArray) K2.out HN6.out).mono ?_); rintro e w' ⟨rfl, rfl⟩) | (go_at_call 99; (with_reducible refine (ks_has_f (⟨#[108, 101, 110]⟩ : ByteArray) K2.out HN7.out).mono ?_); rintro e w' ⟨rfl, rfl⟩) | (go_at_call 99; (with_reducible refine (ks_has_f (⟨#[114, 101]⟩ : ByteArray) K2.out HN8.out).mono ?_); rintro e w' ⟨rfl, rfl⟩) | (go_at_call 99; (with_reducible refine (ks_has_f (⟨#[105, 109]⟩ : ByteArray) K2.out HN9.out).mono ?_); rintro e w' ⟨rfl, rfl⟩) | (go_at_call 99; (with_reducible refine (ks_has_f (⟨#[99, 111, 110, 106]⟩ : ByteArray) K2.out HN10.out).mono ?_); rintro e w' ⟨rfl, rfl⟩) | (go_at_call 99; (with_reducible refine (ks_has_f (⟨#[116, 105, 109, 101, 114]⟩ : ByteArray) K2.out HN11.out).mono ?_); rintro e w' ⟨rfl, rfl⟩) | (go_at_call 99; (with_reducible refine (ks_has_f (⟨#[110, 117, 109]⟩ : ByteArray) K2.out HN12.out).mono ?_); rintro e w' ⟨rfl, rfl⟩) | (go_at_call 99; (with_reducible refine (ks_has_f (⟨#[102, 111, 114, 107]⟩ : ByteArray) K2.out HN13.out).mono ?_); rintro e w' ⟨rfl, rfl⟩) | (go_at_call 99; (with_reducible refine (ks_has_f (⟨#[116, 97, 107, 101]⟩ : ByteArray) K2.out HN14.out).mono ?_); rintro e w' ⟨rfl, rfl⟩) | (go_at_call 111; (with_reducible refine (ks_is (⟨#[99, 97, 108, 108]⟩ : ByteArray) K2.out HN15.out).mono ?_); rintro e w' ⟨rfl, rfl⟩) | (go_at_call 111; (with_reducible refine (ks_is (⟨#[99, 104, 105, 108, 100]⟩ : ByteArray) K2.out HN16.out).mono ?_); rintro e w' ⟨rfl, rfl⟩))
                                                    obtain ⟨b2, hbb⟩ : ∃ b, b = w2.heap.size := ⟨_, rfl⟩
                                                    obtain ⟨w3, hww⟩ : ∃ W : World, W = w2.alloc (.cells #[.int .u8 50, .int .i64 0, .int .i64 0, .string ⟨#[]⟩] 43 (0, 0)) := ⟨_, rfl⟩
                                                    have K3 := Aside0.mk (show Keeps w0 w w3 g _ size _ by rw [hww]; exact K2.out.alloc _)
                                                    have X2 := Aside0.mk (show w3.heap[b2]? = some (.cells #[.int .u8 50, .int .i64 0, .int .i64 0, .string ⟨#[]⟩] 43 (0, 0)) by rw [hww, hbb]; exact blk_new _ _)
                                                    have Y2 := Aside0.mk (show g < b2 by rw [hbb]; exact K2.out.i.lt)
                                                    have Z2 := Aside0.mk (show w.heap.size ≤ b2 by rw [hbb]; exact K2.out.grows)
                                                    rw [← hww, ← hbb]
                                                    clear hww hbb
                                                    go_upto_region 54 with (first | (go_at_call 99; (with_reducible refine (ks_has_t (⟨#[99, 104, 105, 108, 100]⟩ : ByteArray) K3.out HN16.out).mono ?_); rintro e w4 ⟨rfl, hk⟩; have K4 := Aside0.mk hk.k; replace X2 := Aside0.mk (hk.b.blk X2.out (by have := Y2.out; omega) (by simp)); have hcS : w4.cell? ⟨b2, 0, none⟩ = some (.int .u8 50) := (blk_cell X2.out 0).trans rfl; have hfS := blk_frozen X2.out 0; clear hk))
                                                    obtain ⟨w5, hww⟩ : ∃ W : World, W = w4.setCell ⟨b2, 0, none⟩ (.int .u8 51) := ⟨_, rfl⟩
                                                    have K5 := Aside0.mk (show Keeps w0 w w5 g _ size _ by rw [hww]; exact K4.out.own GL.out ((Below.refl _ _).setCell Z2.out _))
                                                    replace X2 := Aside0.mk (show w5.heap[b2]? = some (.cells #[.int .u8 51, .int .i64 0, .int .i64 0, .string ⟨#[]⟩] 43 (0, 0)) by rw [hww]; exact blk_set X2.out 0 _)
                                                    rw [← hww]
                                                    clear hww hcS hfS
                                                    go_upto_region 55 with (first | (go_at_call 85; (with_reducible refine (ks_own_t K5.out HN17.out).mono ?_); rintro e w6 ⟨rfl, hk⟩; have K6 := Aside0.mk hk.k; replace X2 := Aside0.mk (hk.b.blk X2.out (by have := Y2.out; omega) (by simp)); have hcS : w6.cell? ⟨b2, 3, none⟩ = some (.string ⟨#[]⟩) := (blk_cell X2.out 3).trans rfl; have hfS := blk_frozen X2.out 3; clear hk))
                                                    obtain ⟨w7, hww⟩ : ∃ W : World, W = w6.setCell ⟨b2, 3, none⟩ (.string x17.f1) := ⟨_, rfl⟩
                                                    have K7 := Aside0.mk (show Keeps w0 w w7 g _ size _ by rw [hww]; exact K6.out.own GL.out ((Below.refl _ _).setCell Z2.out _))
                                                    replace X2 := Aside0.mk (show w7.heap[b2]? = some (.cells #[.int .u8 51, .int .i64 0, .int .i64 0, .string x17.f1] 43 (0, 0)) by rw [hww]; exact blk_set X2.out 3 _)
                                                    rw [← hww]
                                                    clear hww hcS hfS
                                                    go_upto_region 56 with (first | (go_at_call 84; (with_reducible refine (ks_must_t (⟨#[40]⟩ : ByteArray) K7.out HN18.out).mono ?_); rintro e w8 ⟨rfl, hk⟩; have K8 := Aside0.mk hk.k; replace X2 := Aside0.mk (hk.b.blk X2.out (by have := Y2.out; omega) (by simp)); clear hk))
                                                    have HSK : Aside0 (∀ W' : World, KeepBut w8 W' g none → W'.cell? ⟨b2, 0, none⟩ = some (.int .u8 51) ∧ W'.cell? ⟨b2, 1, none⟩ = some (.int .i64 0) ∧ W'.cell? ⟨b2, 2, none⟩ = some (.int .i64 0) ∧ W'.cell? ⟨b2, 3, none⟩ = some (.string x17.f1)) := ⟨fun W' hk => by have h := hk.blk X2.out (by have := Y2.out; omega) (by simp); exact ⟨(blk_cell h 0).trans rfl, (blk_cell h 1).trans rfl, (blk_cell h 2).trans rfl, (blk_cell h 3).trans rfl⟩⟩
                                                    have KD := Aside0.mk (Keeps.drew (Keeps.refl K8.out.i K8.out.b))
                                                    have GD := Aside0.mk K8.out.i.lt
                                                    obtain ⟨hc50, hc51, hc52, hc53⟩ := HSK.out _ (KeepBut.refl _ _ _)
                                                    go_region_held2 (fun W' => W'.cell? ⟨b2, 0, none⟩ = some (.int .u8 51) ∧ W'.cell? ⟨b2, 1, none⟩ = some (.int .i64 0) ∧ W'.cell? ⟨b2, 2, none⟩ = some (.int .i64 0) ∧ W'.cell? ⟨b2, 3, none⟩ = some (.string x17.f1)) (first | exact HX.out.elim | exact HSK.out _ (KeepBut.refl _ _ _) | exact HSK.out _ (keep_drew (KeepBut.refl _ _ _))) (first | (go_at_call 86; refine calls_dies (c := faultC m19 size) (R := fun w' => Below w0.heap.size w0 w') (ks_list_bad IHm.out (⟨#[41]⟩ : ByteArray) H19.out HL8.out KD.out HN19.out) ?hp ?_; (case hp => intro w' h; exact ⟨rfl, rfl, h⟩); intro A90 n90 c90 w90 hF; have HX := Aside0.mk hF; have hx0 : w90.cell? ⟨b2, 0, none⟩ = some (.int .u8 51) := hF.elim; have hx1 : w90.cell? ⟨b2, 1, none⟩ = some (.int .i64 0) := hF.elim; have hx2 : w90.cell? ⟨b2, 2, none⟩ = some (.int .i64 0) := hF.elim; have hx3 : w90.cell? ⟨b2, 3, none⟩ = some (.string x17.f1) := hF.elim; clear hF) | (go_at_call 88; refine calls_never HX.out ?_; intro A91 n91 c91 w91))
                                                    all_goals exact HX.out.elim
                                              · have HN18 := Aside0.mk hn
                                                clear hn
                                                go_enter Try.func126, Try.ntmps126
                                                go_upto_region 4 with (fail)
                                                obtain ⟨b1, hbb⟩ : ∃ b, b = w.heap.size := ⟨_, rfl⟩
                                                obtain ⟨w1, hww⟩ : ∃ W : World, W = w.alloc (.cells #[.int .u8 x.f0, .string x.f1, .int .i64 x.f2, .int .i64 x.f3] 33 (0, 0)) := ⟨_, rfl⟩
                                                have K1 := Aside0.mk (show Keeps w0 w w1 g _ size _ by rw [hww]; exact K0.out.alloc _)
                                                have X1 := Aside0.mk (show w1.heap[b1]? = some (.cells #[.int .u8 x.f0, .string x.f1, .int .i64 x.f2, .int .i64 x.f3] 33 (0, 0)) by rw [hww, hbb]; exact blk_new _ _)
                                                have Y1 := Aside0.mk (show g < b1 by rw [hbb]; exact K0.out.i.lt)
                                                rw [← hww, ← hbb]
                                                clear hww hbb
                                                have hx0 : w1.cell? ⟨b1, 0, none⟩ = some (.int .u8 x.f0) := (blk_cell X1.out 0).trans rfl
                                                have hx1 : w1.cell? ⟨b1, 1, none⟩ = some (.string x.f1) := (blk_cell X1.out 1).trans rfl
                                                have hx2 : w1.cell? ⟨b1, 2, none⟩ = some (.int .i64 x.f2) := (blk_cell X1.out 2).trans rfl
                                                clear hx1 hx2
                                                go_upto_region 51 with (first | (go_at_call 107; (with_reducible refine (ks_mine K1.out HN0.out).mono ?_); rintro e w2 ⟨rfl, hk⟩; have K2 := Aside0.mk hk.k; clear hk) | (go_at_call 99; (with_reducible refine (ks_has_f (⟨#[110, 111, 110, 101]⟩ : ByteArray) K2.out HN1.out).mono ?_); rintro e w' ⟨rfl, rfl⟩) | (go_at_call 99; (with_reducible refine (ks_has_f (⟨#[116, 114, 117, 101]⟩ : ByteArray) K2.out HN2.out).mono ?_); rintro e w' ⟨rfl, rfl⟩) | (go_at_call 99; (with_reducible refine (ks_has_f (⟨#[102, 97, 108, 115, 101]⟩ : ByteArray) K2.out HN3.out).mono ?_); rintro e w' ⟨rfl, rfl⟩) | (go_at_call 99; (with_reducible refine (ks_has_f (⟨#[118, 101, 114, 115, 105, 111, 110]⟩ : ByteArray) K2.out HN4.out).mono ?_); rintro e w' ⟨rfl, rfl⟩) | (go_at_call 99; (with_reducible refine (ks_has_f (⟨#[91]⟩ : ByteArray) K2.out HN5.out).mono ?_); rintro e w' ⟨rfl, rfl⟩) | (go_at_call 99; (with_reducible refine (ks_has_f (⟨#[40]⟩ : ByteArray) K2.out HN6.out).mono ?_); rintro e w' ⟨rfl, rfl⟩) | (go_at_call 99; (with_reducible refine (ks_has_f (⟨#[108, 101, 110]⟩ : ByteArray) K2.out HN7.out).mono ?_); rintro e w' ⟨rfl, rfl⟩) | (go_at_call 99; (with_reducible refine (ks_has_f (⟨#[114, 101]⟩ : ByteArray) K2.out HN8.out).mono ?_); rintro e w' ⟨rfl, rfl⟩) | (go_at_call 99; (with_reducible refine (ks_has_f (⟨#[105, 109]⟩ : ByteArray) K2.out HN9.out).mono ?_); rintro e w' ⟨rfl, rfl⟩) | (go_at_call 99; (with_reducible refine (ks_has_f (⟨#[99, 111, 110, 106]⟩ : ByteArray) K2.out HN10.out).mono ?_); rintro e w' ⟨rfl, rfl⟩) | (go_at_call 99; (with_reducible refine (ks_has_f (⟨#[116, 105, 109, 101, 114]⟩ : ByteArray) K2.out HN11.out).mono ?_); rintro e w' ⟨rfl, rfl⟩) | (go_at_call 99; (with_reducible refine (ks_has_f (⟨#[110, 117, 109]⟩ : ByteArray) K2.out HN12.out).mono ?_); rintro e w' ⟨rfl, rfl⟩) | (go_at_call 99; (with_reducible refine (ks_has_f (⟨#[102, 111, 114, 107]⟩ : ByteArray) K2.out HN13.out).mono ?_); rintro e w' ⟨rfl, rfl⟩) | (go_at_call 99; (with_reducible refine (ks_has_f (⟨#[116, 97, 107, 101]⟩ : ByteArray) K2.out HN14.out).mono ?_); rintro e w' ⟨rfl, rfl⟩) | (go_at_call 111; (with_reducible refine (ks_is (⟨#[99, 97, 108, 108]⟩ : ByteArray) K2.out HN15.out).mono ?_); rintro e w' ⟨rfl, rfl⟩) | (go_at_call 111; (with_reducible refine (ks_is (⟨#[99, 104, 105, 108, 100]⟩ : ByteArray) K2.out HN16.out).mono ?_); rintro e w' ⟨rfl, rfl⟩))
                                                obtain ⟨b2, hbb⟩ : ∃ b, b = w2.heap.size := ⟨_, rfl⟩
                                                obtain ⟨w3, hww⟩ : ∃ W : World, W = w2.alloc (.cells #[.int .u8 50, .int .i64 0, .int .i64 0, .string ⟨#[]⟩] 43 (0, 0)) := ⟨_, rfl⟩
                                                have K3 := Aside0.mk (show Keeps w0 w w3 g _ size _ by rw [hww]; exact K2.out.alloc _)
                                                have X2 := Aside0.mk (show w3.heap[b2]? = some (.cells #[.int .u8 50, .int .i64 0, .int .i64 0, .string ⟨#[]⟩] 43 (0, 0)) by rw [hww, hbb]; exact blk_new _ _)
                                                have Y2 := Aside0.mk (show g < b2 by rw [hbb]; exact K2.out.i.lt)
                                                have Z2 := Aside0.mk (show w.heap.size ≤ b2 by rw [hbb]; exact K2.out.grows)
                                                rw [← hww, ← hbb]
                                                clear hww hbb
                                                go_upto_region 54 with (first | (go_at_call 99; (with_reducible refine (ks_has_t (⟨#[99, 104, 105, 108, 100]⟩ : ByteArray) K3.out HN16.out).mono ?_); rintro e w4 ⟨rfl, hk⟩; have K4 := Aside0.mk hk.k; replace X2 := Aside0.mk (hk.b.blk X2.out (by have := Y2.out; omega) (by simp)); have hcS : w4.cell? ⟨b2, 0, none⟩ = some (.int .u8 50) := (blk_cell X2.out 0).trans rfl; have hfS := blk_frozen X2.out 0; clear hk))
                                                obtain ⟨w5, hww⟩ : ∃ W : World, W = w4.setCell ⟨b2, 0, none⟩ (.int .u8 51) := ⟨_, rfl⟩
                                                have K5 := Aside0.mk (show Keeps w0 w w5 g _ size _ by rw [hww]; exact K4.out.own GL.out ((Below.refl _ _).setCell Z2.out _))
                                                replace X2 := Aside0.mk (show w5.heap[b2]? = some (.cells #[.int .u8 51, .int .i64 0, .int .i64 0, .string ⟨#[]⟩] 43 (0, 0)) by rw [hww]; exact blk_set X2.out 0 _)
                                                rw [← hww]
                                                clear hww hcS hfS
                                                go_upto_region 55 with (first | (go_at_call 85; (with_reducible refine (ks_own_t K5.out HN17.out).mono ?_); rintro e w6 ⟨rfl, hk⟩; have K6 := Aside0.mk hk.k; replace X2 := Aside0.mk (hk.b.blk X2.out (by have := Y2.out; omega) (by simp)); have hcS : w6.cell? ⟨b2, 3, none⟩ = some (.string ⟨#[]⟩) := (blk_cell X2.out 3).trans rfl; have hfS := blk_frozen X2.out 3; clear hk))
                                                obtain ⟨w7, hww⟩ : ∃ W : World, W = w6.setCell ⟨b2, 3, none⟩ (.string x17.f1) := ⟨_, rfl⟩
                                                have K7 := Aside0.mk (show Keeps w0 w w7 g _ size _ by rw [hww]; exact K6.out.own GL.out ((Below.refl _ _).setCell Z2.out _))
                                                replace X2 := Aside0.mk (show w7.heap[b2]? = some (.cells #[.int .u8 51, .int .i64 0, .int .i64 0, .string x17.f1] 43 (0, 0)) by rw [hww]; exact blk_set X2.out 3 _)
                                                rw [← hww]
                                                clear hww hcS hfS
                                                go_wp2_with (first | (go_at_call 84; (with_reducible refine (ks_must_f (⟨#[40]⟩ : ByteArray) K7.out HN18.out).mono ?_); rintro e w' ⟨rfl, hb⟩))
                                                exact ⟨rfl, rfl, hb⟩
                                            · have HN17 := Aside0.mk hn
                                              clear hn
                                              go_enter Try.func126, Try.ntmps126
                                              go_upto_region 4 with (fail)
                                              obtain ⟨b1, hbb⟩ : ∃ b, b = w.heap.size := ⟨_, rfl⟩
                                              obtain ⟨w1, hww⟩ : ∃ W : World, W = w.alloc (.cells #[.int .u8 x.f0, .string x.f1, .int .i64 x.f2, .int .i64 x.f3] 33 (0, 0)) := ⟨_, rfl⟩
                                              have K1 := Aside0.mk (show Keeps w0 w w1 g _ size _ by rw [hww]; exact K0.out.alloc _)
                                              have X1 := Aside0.mk (show w1.heap[b1]? = some (.cells #[.int .u8 x.f0, .string x.f1, .int .i64 x.f2, .int .i64 x.f3] 33 (0, 0)) by rw [hww, hbb]; exact blk_new _ _)
                                              have Y1 := Aside0.mk (show g < b1 by rw [hbb]; exact K0.out.i.lt)
                                              rw [← hww, ← hbb]
                                              clear hww hbb
                                              have hx0 : w1.cell? ⟨b1, 0, none⟩ = some (.int .u8 x.f0) := (blk_cell X1.out 0).trans rfl
                                              have hx1 : w1.cell? ⟨b1, 1, none⟩ = some (.string x.f1) := (blk_cell X1.out 1).trans rfl
                                              have hx2 : w1.cell? ⟨b1, 2, none⟩ = some (.int .i64 x.f2) := (blk_cell X1.out 2).trans rfl
                                              clear hx1 hx2
                                              go_upto_region 51 with (first | (go_at_call 107; (with_reducible refine (ks_mine K1.out HN0.out).mono ?_); rintro e w2 ⟨rfl, hk⟩; have K2 := Aside0.mk hk.k; clear hk) | (go_at_call 99; (with_reducible refine (ks_has_f (⟨#[110, 111, 110, 101]⟩ : ByteArray) K2.out HN1.out).mono ?_); rintro e w' ⟨rfl, rfl⟩) | (go_at_call 99; (with_reducible refine (ks_has_f (⟨#[116, 114, 117, 101]⟩ : ByteArray) K2.out HN2.out).mono ?_); rintro e w' ⟨rfl, rfl⟩) | (go_at_call 99; (with_reducible refine (ks_has_f (⟨#[102, 97, 108, 115, 101]⟩ : ByteArray) K2.out HN3.out).mono ?_); rintro e w' ⟨rfl, rfl⟩) | (go_at_call 99; (with_reducible refine (ks_has_f (⟨#[118, 101, 114, 115, 105, 111, 110]⟩ : ByteArray) K2.out HN4.out).mono ?_); rintro e w' ⟨rfl, rfl⟩) | (go_at_call 99; (with_reducible refine (ks_has_f (⟨#[91]⟩ : ByteArray) K2.out HN5.out).mono ?_); rintro e w' ⟨rfl, rfl⟩) | (go_at_call 99; (with_reducible refine (ks_has_f (⟨#[40]⟩ : ByteArray) K2.out HN6.out).mono ?_); rintro e w' ⟨rfl, rfl⟩) | (go_at_call 99; (with_reducible refine (ks_has_f (⟨#[108, 101, 110]⟩ : ByteArray) K2.out HN7.out).mono ?_); rintro e w' ⟨rfl, rfl⟩) | (go_at_call 99; (with_reducible refine (ks_has_f (⟨#[114, 101]⟩ : ByteArray) K2.out HN8.out).mono ?_); rintro e w' ⟨rfl, rfl⟩) | (go_at_call 99; (with_reducible refine (ks_has_f (⟨#[105, 109]⟩ : ByteArray) K2.out HN9.out).mono ?_); rintro e w' ⟨rfl, rfl⟩) | (go_at_call 99; (with_reducible refine (ks_has_f (⟨#[99, 111, 110, 106]⟩ : ByteArray) K2.out HN10.out).mono ?_); rintro e w' ⟨rfl, rfl⟩) | (go_at_call 99; (with_reducible refine (ks_has_f (⟨#[116, 105, 109, 101, 114]⟩ : ByteArray) K2.out HN11.out).mono ?_); rintro e w' ⟨rfl, rfl⟩) | (go_at_call 99; (with_reducible refine (ks_has_f (⟨#[110, 117, 109]⟩ : ByteArray) K2.out HN12.out).mono ?_); rintro e w' ⟨rfl, rfl⟩) | (go_at_call 99; (with_reducible refine (ks_has_f (⟨#[102, 111, 114, 107]⟩ : ByteArray) K2.out HN13.out).mono ?_); rintro e w' ⟨rfl, rfl⟩) | (go_at_call 99; (with_reducible refine (ks_has_f (⟨#[116, 97, 107, 101]⟩ : ByteArray) K2.out HN14.out).mono ?_); rintro e w' ⟨rfl, rfl⟩) | (go_at_call 111; (with_reducible refine (ks_is (⟨#[99, 97, 108, 108]⟩ : ByteArray) K2.out HN15.out).mono ?_); rintro e w' ⟨rfl, rfl⟩) | (go_at_call 111; (with_reducible refine (ks_is (⟨#[99, 104, 105, 108, 100]⟩ : ByteArray) K2.out HN16.out).mono ?_); rintro e w' ⟨rfl, rfl⟩))
                                              obtain ⟨b2, hbb⟩ : ∃ b, b = w2.heap.size := ⟨_, rfl⟩
                                              obtain ⟨w3, hww⟩ : ∃ W : World, W = w2.alloc (.cells #[.int .u8 50, .int .i64 0, .int .i64 0, .string ⟨#[]⟩] 43 (0, 0)) := ⟨_, rfl⟩
                                              have K3 := Aside0.mk (show Keeps w0 w w3 g _ size _ by rw [hww]; exact K2.out.alloc _)
                                              have X2 := Aside0.mk (show w3.heap[b2]? = some (.cells #[.int .u8 50, .int .i64 0, .int .i64 0, .string ⟨#[]⟩] 43 (0, 0)) by rw [hww, hbb]; exact blk_new _ _)
                                              have Y2 := Aside0.mk (show g < b2 by rw [hbb]; exact K2.out.i.lt)
                                              have Z2 := Aside0.mk (show w.heap.size ≤ b2 by rw [hbb]; exact K2.out.grows)
                                              rw [← hww, ← hbb]
                                              clear hww hbb
                                              go_upto_region 54 with (first | (go_at_call 99; (with_reducible refine (ks_has_t (⟨#[99, 104, 105, 108, 100]⟩ : ByteArray) K3.out HN16.out).mono ?_); rintro e w4 ⟨rfl, hk⟩; have K4 := Aside0.mk hk.k; replace X2 := Aside0.mk (hk.b.blk X2.out (by have := Y2.out; omega) (by simp)); have hcS : w4.cell? ⟨b2, 0, none⟩ = some (.int .u8 50) := (blk_cell X2.out 0).trans rfl; have hfS := blk_frozen X2.out 0; clear hk))
                                              obtain ⟨w5, hww⟩ : ∃ W : World, W = w4.setCell ⟨b2, 0, none⟩ (.int .u8 51) := ⟨_, rfl⟩
                                              have K5 := Aside0.mk (show Keeps w0 w w5 g _ size _ by rw [hww]; exact K4.out.own GL.out ((Below.refl _ _).setCell Z2.out _))
                                              replace X2 := Aside0.mk (show w5.heap[b2]? = some (.cells #[.int .u8 51, .int .i64 0, .int .i64 0, .string ⟨#[]⟩] 43 (0, 0)) by rw [hww]; exact blk_set X2.out 0 _)
                                              rw [← hww]
                                              clear hww hcS hfS
                                              go_wp2_with (first | (go_at_call 85; (with_reducible refine (ks_own_f K5.out HN17.out).mono ?_); rintro e w' ⟨rfl, hb⟩))
                                              exact ⟨rfl, rfl, hb⟩
                                          · clear hr; have hr := hq; clear hq; have HN16 := Aside0.mk (Bool.eq_false_iff.2 hn)
                                            clear hn
                                            obtain rfl := Option.some.inj hr
                                            clear hr
                                            go_enter Try.func126, Try.ntmps126
                                            go_upto_region 4 with (fail)
                                            obtain ⟨b1, hbb⟩ : ∃ b, b = w.heap.size := ⟨_, rfl⟩
                                            obtain ⟨w1, hww⟩ : ∃ W : World, W = w.alloc (.cells #[.int .u8 x.f0, .string x.f1, .int .i64 x.f2, .int .i64 x.f3] 33 (0, 0)) := ⟨_, rfl⟩
                                            have K1 := Aside0.mk (show Keeps w0 w w1 g _ size _ by rw [hww]; exact K0.out.alloc _)
                                            have X1 := Aside0.mk (show w1.heap[b1]? = some (.cells #[.int .u8 x.f0, .string x.f1, .int .i64 x.f2, .int .i64 x.f3] 33 (0, 0)) by rw [hww, hbb]; exact blk_new _ _)
                                            have Y1 := Aside0.mk (show g < b1 by rw [hbb]; exact K0.out.i.lt)
                                            rw [← hww, ← hbb]
                                            clear hww hbb
                                            have hx0 : w1.cell? ⟨b1, 0, none⟩ = some (.int .u8 x.f0) := (blk_cell X1.out 0).trans rfl
                                            have hx1 : w1.cell? ⟨b1, 1, none⟩ = some (.string x.f1) := (blk_cell X1.out 1).trans rfl
                                            have hx2 : w1.cell? ⟨b1, 2, none⟩ = some (.int .i64 x.f2) := (blk_cell X1.out 2).trans rfl
                                            clear hx1 hx2
                                            go_wp2_with (first | (go_at_call 107; (with_reducible refine (ks_mine K1.out HN0.out).mono ?_); rintro e w2 ⟨rfl, hk⟩; have K2 := Aside0.mk hk.k; clear hk) | (go_at_call 99; (with_reducible refine (ks_has_f (⟨#[110, 111, 110, 101]⟩ : ByteArray) K2.out HN1.out).mono ?_); rintro e w' ⟨rfl, rfl⟩) | (go_at_call 99; (with_reducible refine (ks_has_f (⟨#[116, 114, 117, 101]⟩ : ByteArray) K2.out HN2.out).mono ?_); rintro e w' ⟨rfl, rfl⟩) | (go_at_call 99; (with_reducible refine (ks_has_f (⟨#[102, 97, 108, 115, 101]⟩ : ByteArray) K2.out HN3.out).mono ?_); rintro e w' ⟨rfl, rfl⟩) | (go_at_call 99; (with_reducible refine (ks_has_f (⟨#[118, 101, 114, 115, 105, 111, 110]⟩ : ByteArray) K2.out HN4.out).mono ?_); rintro e w' ⟨rfl, rfl⟩) | (go_at_call 99; (with_reducible refine (ks_has_f (⟨#[91]⟩ : ByteArray) K2.out HN5.out).mono ?_); rintro e w' ⟨rfl, rfl⟩) | (go_at_call 99; (with_reducible refine (ks_has_f (⟨#[40]⟩ : ByteArray) K2.out HN6.out).mono ?_); rintro e w' ⟨rfl, rfl⟩) | (go_at_call 99; (with_reducible refine (ks_has_f (⟨#[108, 101, 110]⟩ : ByteArray) K2.out HN7.out).mono ?_); rintro e w' ⟨rfl, rfl⟩) | (go_at_call 99; (with_reducible refine (ks_has_f (⟨#[114, 101]⟩ : ByteArray) K2.out HN8.out).mono ?_); rintro e w' ⟨rfl, rfl⟩) | (go_at_call 99; (with_reducible refine (ks_has_f (⟨#[105, 109]⟩ : ByteArray) K2.out HN9.out).mono ?_); rintro e w' ⟨rfl, rfl⟩) | (go_at_call 99; (with_reducible refine (ks_has_f (⟨#[99, 111, 110, 106]⟩ : ByteArray) K2.out HN10.out).mono ?_); rintro e w' ⟨rfl, rfl⟩) | (go_at_call 99; (with_reducible refine (ks_has_f (⟨#[116, 105, 109, 101, 114]⟩ : ByteArray) K2.out HN11.out).mono ?_); rintro e w' ⟨rfl, rfl⟩) | (go_at_call 99; (with_reducible refine (ks_has_f (⟨#[110, 117, 109]⟩ : ByteArray) K2.out HN12.out).mono ?_); rintro e w' ⟨rfl, rfl⟩) | (go_at_call 99; (with_reducible refine (ks_has_f (⟨#[102, 111, 114, 107]⟩ : ByteArray) K2.out HN13.out).mono ?_); rintro e w' ⟨rfl, rfl⟩) | (go_at_call 99; (with_reducible refine (ks_has_f (⟨#[116, 97, 107, 101]⟩ : ByteArray) K2.out HN14.out).mono ?_); rintro e w' ⟨rfl, rfl⟩) | (go_at_call 111; (with_reducible refine (ks_is (⟨#[99, 97, 108, 108]⟩ : ByteArray) K2.out HN15.out).mono ?_); rintro e w' ⟨rfl, rfl⟩) | (go_at_call 111; (with_reducible refine (ks_is (⟨#[99, 104, 105, 108, 100]⟩ : ByteArray) K2.out HN16.out).mono ?_); rintro e w' ⟨rfl, rfl⟩) | (go_at_call 79; (with_reducible refine (ks_fault K2.out).mono ?_); rintro e w' ⟨rfl, hb⟩))
                                            exact ⟨rfl, rfl, hb⟩
end Go.Proofs.Ytlbchdalimngjaa.P
