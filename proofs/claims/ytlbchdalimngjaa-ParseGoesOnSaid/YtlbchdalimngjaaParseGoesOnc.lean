/- Parts of a proof, joined by a program: Proved here: the statement prompterlaw09.ParseGoesOn holds for every input that the row speaks of (no condition of mine). -/
import Derived.Test.YtlbchdalimngjaaParseGoesOnb
namespace Go.Proofs.Ytlbchdalimngjaa.P
open Go.RowKit Go.Proofs.YtlbchdalimngjaaW.PrintWords Go.Proofs.YtlbchdalimngjaaW.PrintLast Go.Proofs.YtlbchdalimngjaaW.PrintMore
attribute [local go_sem] mk_run' mk_events'
set_option linter.unusedVariables false
set_option linter.unusedSimpArgs false
set_option maxHeartbeats 8000000 in
set_option maxRecDepth 100000 in
theorem rd_expr {k : Nat} (IH : ∀ m, m < k + 1 → AllOk m) : Fn_ 57 (levS (k + 1) 0) := by
  intro l long r w0 w g size hr hl hI hB
  have K0 := Aside0.mk (Keeps.refl hI hB)
  have GL := Aside0.mk hI.lt
  have HL := Aside0.mk hl
  have HIH := Aside0.mk IH
  clear hI hB hl IH
  rw [levS, if_neg (by decide), if_neg (by simp)] at hr
  have HR := Aside0.mk hr
  clear hr
  cases r with
  | ok t l1 g1 =>
    go_enter Try.func57, Try.ntmps57
    go_wp2_with (first | ((with_reducible refine gate_dst (N := 4) rfl ?_); refine lit_event ?hg (N := 4) ?hd (vs := [.string (⟨#[111, 114]⟩ : ByteArray)]) (e := 9) (n := 1) ?hr ?_; (case hd => rfl); (case hg => rfl); (case hr => first | (go_simp; done) | (go_simp; rfl)); intro b1 hg w1 hbx hbl; have K1 := Aside0.mk (K0.out.below hbl); have X1 := Aside0.mk hbx; have G1 := Aside0.mk hg; clear hbx hbl hg) | ((with_reducible refine gate_dst (N := 5) rfl ?_); refine lit_event ?hg (N := 5) ?hd (vs := [.int .u8 30]) (e := 5) (n := 1) ?hr ?_; (case hd => rfl); (case hg => rfl); (case hr => first | (go_simp; done) | (go_simp; rfl)); intro b2 hg w2 hbx hbl; have K2 := Aside0.mk (K1.out.below hbl); have X2 := Aside0.mk hbx; have G2 := Aside0.mk hg; have X1 := Aside0.mk (blk_below X1.out hbl); clear hbx hbl hg) | (go_at_call 80; refine (rd_left (k := k) (lv := 0) (mf := 81) (w0 := w0) (size := size) (ent_of 1) ?b HR.out HL.out K2.out.i K2.out.b ?s ?o (Nat.le_refl _) (Nat.le_refl _)).mono ?_; (case b => exact fun m hm l long r w0 w g size h1 h2 h3 h4 => (HIH.out m (by omega)).1 1 (by omega) l long r w0 w g size h1 h2 h3 h4); (case s => exact strs_foot (ss := sgW 0) X1.out (by have := G1.out; have := GL.out; omega) (by decide)); (case o => exact ops_foot (os := sgO 0) X2.out (by have := G2.out; have := K1.out.grows; have := GL.out; omega) (by decide)); rintro e w3 hp; obtain ⟨A3, c3, rfl, ht, hk, _⟩ := PostR.up K2.out hp; have T3 := Aside0.mk ht; have K3 := Aside0.mk hk; clear ht hk hp))
    go_ret
    exact PostR.ok_ T3.out K3.out
  | bad l1 =>
    go_enter Try.func57, Try.ntmps57
    go_wp2_with (first | ((with_reducible refine gate_dst (N := 4) rfl ?_); refine lit_event ?hg (N := 4) ?hd (vs := [.string (⟨#[111, 114]⟩ : ByteArray)]) (e := 9) (n := 1) ?hr ?_; (case hd => rfl); (case hg => rfl); (case hr => first | (go_simp; done) | (go_simp; rfl)); intro b1 hg w1 hbx hbl; have K1 := Aside0.mk (K0.out.below hbl); have X1 := Aside0.mk hbx; have G1 := Aside0.mk hg; clear hbx hbl hg) | ((with_reducible refine gate_dst (N := 5) rfl ?_); refine lit_event ?hg (N := 5) ?hd (vs := [.int .u8 30]) (e := 5) (n := 1) ?hr ?_; (case hd => rfl); (case hg => rfl); (case hr => first | (go_simp; done) | (go_simp; rfl)); intro b2 hg w2 hbx hbl; have K2 := Aside0.mk (K1.out.below hbl); have X2 := Aside0.mk hbx; have G2 := Aside0.mk hg; have X1 := Aside0.mk (blk_below X1.out hbl); clear hbx hbl hg) | (go_at_call 80; refine (rd_left (k := k) (lv := 0) (mf := 81) (w0 := w0) (size := size) (ent_of 1) ?b HR.out HL.out K2.out.i K2.out.b ?s ?o (Nat.le_refl _) (Nat.le_refl _)).mono ?_; (case b => exact fun m hm l long r w0 w g size h1 h2 h3 h4 => (HIH.out m (by omega)).1 1 (by omega) l long r w0 w g size h1 h2 h3 h4); (case s => exact strs_foot (ss := sgW 0) X1.out (by have := G1.out; have := GL.out; omega) (by decide)); (case o => exact ops_foot (os := sgO 0) X2.out (by have := G2.out; have := K1.out.grows; have := GL.out; omega) (by decide)); rintro e w3 hp; obtain ⟨rfl, hb⟩ := hp))
    exact ⟨rfl, rfl, hb⟩
set_option maxHeartbeats 8000000 in
set_option maxRecDepth 100000 in
theorem rd_and {k : Nat} (IH : ∀ m, m < k + 1 → AllOk m) : Fn_ 81 (levS (k + 1) 1) := by
  intro l long r w0 w g size hr hl hI hB
  have K0 := Aside0.mk (Keeps.refl hI hB)
  have GL := Aside0.mk hI.lt
  have HL := Aside0.mk hl
  have HIH := Aside0.mk IH
  clear hI hB hl IH
  rw [levS, if_neg (by decide), if_neg (by simp)] at hr
  have HR := Aside0.mk hr
  clear hr
  cases r with
  | ok t l1 g1 =>
    go_enter Try.func81, Try.ntmps81
    go_wp2_with (first | ((with_reducible refine gate_dst (N := 4) rfl ?_); refine lit_event ?hg (N := 4) ?hd (vs := [.string (⟨#[97, 110, 100]⟩ : ByteArray)]) (e := 9) (n := 1) ?hr ?_; (case hd => rfl); (case hg => rfl); (case hr => first | (go_simp; done) | (go_simp; rfl)); intro b1 hg w1 hbx hbl; have K1 := Aside0.mk (K0.out.below hbl); have X1 := Aside0.mk hbx; have G1 := Aside0.mk hg; clear hbx hbl hg) | ((with_reducible refine gate_dst (N := 5) rfl ?_); refine lit_event ?hg (N := 5) ?hd (vs := [.int .u8 31]) (e := 5) (n := 1) ?hr ?_; (case hd => rfl); (case hg => rfl); (case hr => first | (go_simp; done) | (go_simp; rfl)); intro b2 hg w2 hbx hbl; have K2 := Aside0.mk (K1.out.below hbl); have X2 := Aside0.mk hbx; have G2 := Aside0.mk hg; have X1 := Aside0.mk (blk_below X1.out hbl); clear hbx hbl hg) | (go_at_call 80; refine (rd_left (k := k) (lv := 1) (mf := 100) (w0 := w0) (size := size) (ent_of 2) ?b HR.out HL.out K2.out.i K2.out.b ?s ?o (Nat.le_refl _) (Nat.le_refl _)).mono ?_; (case b => exact fun m hm l long r w0 w g size h1 h2 h3 h4 => (HIH.out m (by omega)).1 2 (by omega) l long r w0 w g size h1 h2 h3 h4); (case s => exact strs_foot (ss := sgW 1) X1.out (by have := G1.out; have := GL.out; omega) (by decide)); (case o => exact ops_foot (os := sgO 1) X2.out (by have := G2.out; have := K1.out.grows; have := GL.out; omega) (by decide)); rintro e w3 hp; obtain ⟨A3, c3, rfl, ht, hk, _⟩ := PostR.up K2.out hp; have T3 := Aside0.mk ht; have K3 := Aside0.mk hk; clear ht hk hp))
    go_ret
    exact PostR.ok_ T3.out K3.out
  | bad l1 =>
    go_enter Try.func81, Try.ntmps81
    go_wp2_with (first | ((with_reducible refine gate_dst (N := 4) rfl ?_); refine lit_event ?hg (N := 4) ?hd (vs := [.string (⟨#[97, 110, 100]⟩ : ByteArray)]) (e := 9) (n := 1) ?hr ?_; (case hd => rfl); (case hg => rfl); (case hr => first | (go_simp; done) | (go_simp; rfl)); intro b1 hg w1 hbx hbl; have K1 := Aside0.mk (K0.out.below hbl); have X1 := Aside0.mk hbx; have G1 := Aside0.mk hg; clear hbx hbl hg) | ((with_reducible refine gate_dst (N := 5) rfl ?_); refine lit_event ?hg (N := 5) ?hd (vs := [.int .u8 31]) (e := 5) (n := 1) ?hr ?_; (case hd => rfl); (case hg => rfl); (case hr => first | (go_simp; done) | (go_simp; rfl)); intro b2 hg w2 hbx hbl; have K2 := Aside0.mk (K1.out.below hbl); have X2 := Aside0.mk hbx; have G2 := Aside0.mk hg; have X1 := Aside0.mk (blk_below X1.out hbl); clear hbx hbl hg) | (go_at_call 80; refine (rd_left (k := k) (lv := 1) (mf := 100) (w0 := w0) (size := size) (ent_of 2) ?b HR.out HL.out K2.out.i K2.out.b ?s ?o (Nat.le_refl _) (Nat.le_refl _)).mono ?_; (case b => exact fun m hm l long r w0 w g size h1 h2 h3 h4 => (HIH.out m (by omega)).1 2 (by omega) l long r w0 w g size h1 h2 h3 h4); (case s => exact strs_foot (ss := sgW 1) X1.out (by have := G1.out; have := GL.out; omega) (by decide)); (case o => exact ops_foot (os := sgO 1) X2.out (by have := G2.out; have := K1.out.grows; have := GL.out; omega) (by decide)); rintro e w3 hp; obtain ⟨rfl, hb⟩ := hp))
    exact ⟨rfl, rfl, hb⟩
set_option maxHeartbeats 8000000 in
set_option maxRecDepth 100000 in
theorem rd_not {k : Nat} (IH : ∀ m, m < k + 1 → AllOk m) : Fn_ 100 (levS (k + 1) 2) := by
  intro l long r w0 w g size hr hl hI hB
  have K0 := Aside0.mk (Keeps.refl hI hB)
  have GL := Aside0.mk hI.lt
  have HL := Aside0.mk hl
  have HIH := Aside0.mk IH
  clear hI hB hl IH
  rw [levS, if_neg (by decide)] at hr
  by_cases hn : isB l (⟨#[110, 111, 116]⟩ : ByteArray) = true
  · rw [if_pos ⟨rfl, hn⟩] at hr
    obtain ⟨x, l, rfl⟩ := isB_cons hn
    rw [List.tail_cons] at hr
    have HN := Aside0.mk hn
    have HL1 := Aside0.mk (show l.length ≤ 100000 by have := HL.out; rw [List.length_cons] at this; omega)
    clear hn
    rcases andThen_inv hr with ⟨t, l1, g1, h1, h2⟩ | ⟨l1, h1, rfl⟩
    · have H1 := Aside0.mk h1
      obtain rfl := Option.some.inj h2
      clear h1 hr h2
      go_enter Try.func100, Try.ntmps100
      go_wp2_with (first | (go_at_call 99; (with_reducible refine (rd_has_t (⟨#[110, 111, 116]⟩ : ByteArray) K0.out.i K0.out.b HN.out).mono ?_); rintro e w1 ⟨rfl, hi, hb, hk⟩; have K1 := Aside0.mk (K0.out.then_ (show Keeps w0 w w1 g l size long from ⟨hi, hb, hk⟩)); clear hi hb hk) | (go_at_call 100; (with_reducible refine (fn_at (HIH.out k (Nat.lt_succ_self k)).not_ H1.out HL1.out K1.out.i K1.out.b).mono ?_); rintro e w2 hp; obtain ⟨A2, c2, rfl, ht, hk, _⟩ := PostR.up K1.out hp; have T2 := Aside0.mk ht; have K2 := Aside0.mk hk; clear ht hk hp) | (go_at_call 88; refine (rd_of1 K2.out GL.out T2.out).mono ?_; rintro e w3 ⟨A3, c3, rfl, ht, hk⟩; have T3 := Aside0.mk ht; have K3 := Aside0.mk hk; clear ht hk))
      go_ret
      exact PostR.ok_ T3.out K3.out
    · have H1 := Aside0.mk h1
      clear h1 hr
      go_enter Try.func100, Try.ntmps100
      go_wp2_with (first | (go_at_call 99; (with_reducible refine (rd_has_t (⟨#[110, 111, 116]⟩ : ByteArray) K0.out.i K0.out.b HN.out).mono ?_); rintro e w1 ⟨rfl, hi, hb, hk⟩; have K1 := Aside0.mk (K0.out.then_ (show Keeps w0 w w1 g l size long from ⟨hi, hb, hk⟩)); clear hi hb hk) | (go_at_call 100; (with_reducible refine (fn_at (HIH.out k (Nat.lt_succ_self k)).not_ H1.out HL1.out K1.out.i K1.out.b).mono ?_); rintro e w2 hp; obtain ⟨rfl, hb⟩ := hp))
      exact ⟨rfl, rfl, hb⟩
  · rw [if_neg (fun h => hn h.2)] at hr
    have HN := Aside0.mk (Bool.eq_false_iff.2 hn)
    have HR := Aside0.mk hr
    clear hr hn
    cases r with
    | ok t l1 g1 =>
      go_enter Try.func100, Try.ntmps100
      go_wp2_with (first | (go_at_call 99; (with_reducible refine (rd_has_f (⟨#[110, 111, 116]⟩ : ByteArray) K0.out.i K0.out.b HN.out).mono ?_); rintro e w' ⟨rfl, rfl⟩) | ((with_reducible refine gate_dst (N := 12) rfl ?_); refine lit_event ?hg (N := 12) ?hd (vs := [.string (⟨#[61, 61]⟩ : ByteArray), .string (⟨#[33, 61]⟩ : ByteArray), .string (⟨#[60]⟩ : ByteArray), .string (⟨#[60, 61]⟩ : ByteArray)]) (e := 9) (n := 4) ?hr ?_; (case hd => rfl); (case hg => rfl); (case hr => first | (go_simp; done) | (go_simp; rfl)); intro b1 hg w1 hbx hbl; have K1 := Aside0.mk (K0.out.below hbl); have X1 := Aside0.mk hbx; have G1 := Aside0.mk hg; clear hbx hbl hg) | ((with_reducible refine gate_dst (N := 13) rfl ?_); refine lit_event ?hg (N := 13) ?hd (vs := [.int .u8 32, .int .u8 33, .int .u8 34, .int .u8 35]) (e := 5) (n := 4) ?hr ?_; (case hd => rfl); (case hg => rfl); (case hr => first | (go_simp; done) | (go_simp; rfl)); intro b2 hg w2 hbx hbl; have K2 := Aside0.mk (K1.out.below hbl); have X2 := Aside0.mk hbx; have G2 := Aside0.mk hg; have X1 := Aside0.mk (blk_below X1.out hbl); clear hbx hbl hg) | (go_at_call 80; refine (rd_left (k := k) (lv := 2) (mf := 112) (w0 := w0) (size := size) (ent_of 3) ?b HR.out HL.out K2.out.i K2.out.b ?s ?o (Nat.le_refl _) (Nat.le_refl _)).mono ?_; (case b => exact fun m hm l long r w0 w g size h1 h2 h3 h4 => (HIH.out m (by omega)).1 3 (by omega) l long r w0 w g size h1 h2 h3 h4); (case s => exact strs_foot (ss := sgW 2) X1.out (by have := G1.out; have := GL.out; omega) (by decide)); (case o => exact ops_foot (os := sgO 2) X2.out (by have := G2.out; have := K1.out.grows; have := GL.out; omega) (by decide)); rintro e w3 hp; obtain ⟨A3, c3, rfl, ht, hk, _⟩ := PostR.up K2.out hp; have T3 := Aside0.mk ht; have K3 := Aside0.mk hk; clear ht hk hp))
      go_ret
      exact PostR.ok_ T3.out K3.out
    | bad l1 =>
      go_enter Try.func100, Try.ntmps100
      go_wp2_with (first | (go_at_call 99; (with_reducible refine (rd_has_f (⟨#[110, 111, 116]⟩ : ByteArray) K0.out.i K0.out.b HN.out).mono ?_); rintro e w' ⟨rfl, rfl⟩) | ((with_reducible refine gate_dst (N := 12) rfl ?_); refine lit_event ?hg (N := 12) ?hd (vs := [.string (⟨#[61, 61]⟩ : ByteArray), .string (⟨#[33, 61]⟩ : ByteArray), .string (⟨#[60]⟩ : ByteArray), .string (⟨#[60, 61]⟩ : ByteArray)]) (e := 9) (n := 4) ?hr ?_; (case hd => rfl); (case hg => rfl); (case hr => first | (go_simp; done) | (go_simp; rfl)); intro b1 hg w1 hbx hbl; have K1 := Aside0.mk (K0.out.below hbl); have X1 := Aside0.mk hbx; have G1 := Aside0.mk hg; clear hbx hbl hg) | ((with_reducible refine gate_dst (N := 13) rfl ?_); refine lit_event ?hg (N := 13) ?hd (vs := [.int .u8 32, .int .u8 33, .int .u8 34, .int .u8 35]) (e := 5) (n := 4) ?hr ?_; (case hd => rfl); (case hg => rfl); (case hr => first | (go_simp; done) | (go_simp; rfl)); intro b2 hg w2 hbx hbl; have K2 := Aside0.mk (K1.out.below hbl); have X2 := Aside0.mk hbx; have G2 := Aside0.mk hg; have X1 := Aside0.mk (blk_below X1.out hbl); clear hbx hbl hg) | (go_at_call 80; refine (rd_left (k := k) (lv := 2) (mf := 112) (w0 := w0) (size := size) (ent_of 3) ?b HR.out HL.out K2.out.i K2.out.b ?s ?o (Nat.le_refl _) (Nat.le_refl _)).mono ?_; (case b => exact fun m hm l long r w0 w g size h1 h2 h3 h4 => (HIH.out m (by omega)).1 3 (by omega) l long r w0 w g size h1 h2 h3 h4); (case s => exact strs_foot (ss := sgW 2) X1.out (by have := G1.out; have := GL.out; omega) (by decide)); (case o => exact ops_foot (os := sgO 2) X2.out (by have := G2.out; have := K1.out.grows; have := GL.out; omega) (by decide)); rintro e w3 hp; obtain ⟨rfl, hb⟩ := hp))
      exact ⟨rfl, rfl, hb⟩
set_option maxHeartbeats 8000000 in
set_option maxRecDepth 100000 in
theorem rd_sum {k : Nat} (IH : ∀ m, m < k + 1 → AllOk m) : Fn_ 112 (levS (k + 1) 3) := by
  intro l long r w0 w g size hr hl hI hB
  have K0 := Aside0.mk (Keeps.refl hI hB)
  have GL := Aside0.mk hI.lt
  have HL := Aside0.mk hl
  have HIH := Aside0.mk IH
  clear hI hB hl IH
  rw [levS, if_neg (by decide), if_neg (by simp)] at hr
  have HR := Aside0.mk hr
  clear hr
  cases r with
  | ok t l1 g1 =>
    go_enter Try.func112, Try.ntmps112
    go_wp2_with (first | ((with_reducible refine gate_dst (N := 4) rfl ?_); refine lit_event ?hg (N := 4) ?hd (vs := [.string (⟨#[43]⟩ : ByteArray), .string (⟨#[45]⟩ : ByteArray)]) (e := 9) (n := 2) ?hr ?_; (case hd => rfl); (case hg => rfl); (case hr => first | (go_simp; done) | (go_simp; rfl)); intro b1 hg w1 hbx hbl; have K1 := Aside0.mk (K0.out.below hbl); have X1 := Aside0.mk hbx; have G1 := Aside0.mk hg; clear hbx hbl hg) | ((with_reducible refine gate_dst (N := 5) rfl ?_); refine lit_event ?hg (N := 5) ?hd (vs := [.int .u8 36, .int .u8 37]) (e := 5) (n := 2) ?hr ?_; (case hd => rfl); (case hg => rfl); (case hr => first | (go_simp; done) | (go_simp; rfl)); intro b2 hg w2 hbx hbl; have K2 := Aside0.mk (K1.out.below hbl); have X2 := Aside0.mk hbx; have G2 := Aside0.mk hg; have X1 := Aside0.mk (blk_below X1.out hbl); clear hbx hbl hg) | (go_at_call 80; refine (rd_left (k := k) (lv := 3) (mf := 118) (w0 := w0) (size := size) (ent_of 4) ?b HR.out HL.out K2.out.i K2.out.b ?s ?o (Nat.le_refl _) (Nat.le_refl _)).mono ?_; (case b => exact fun m hm l long r w0 w g size h1 h2 h3 h4 => (HIH.out m (by omega)).1 4 (by omega) l long r w0 w g size h1 h2 h3 h4); (case s => exact strs_foot (ss := sgW 3) X1.out (by have := G1.out; have := GL.out; omega) (by decide)); (case o => exact ops_foot (os := sgO 3) X2.out (by have := G2.out; have := K1.out.grows; have := GL.out; omega) (by decide)); rintro e w3 hp; obtain ⟨A3, c3, rfl, ht, hk, _⟩ := PostR.up K2.out hp; have T3 := Aside0.mk ht; have K3 := Aside0.mk hk; clear ht hk hp))
    go_ret
    exact PostR.ok_ T3.out K3.out
  | bad l1 =>
    go_enter Try.func112, Try.ntmps112
    go_wp2_with (first | ((with_reducible refine gate_dst (N := 4) rfl ?_); refine lit_event ?hg (N := 4) ?hd (vs := [.string (⟨#[43]⟩ : ByteArray), .string (⟨#[45]⟩ : ByteArray)]) (e := 9) (n := 2) ?hr ?_; (case hd => rfl); (case hg => rfl); (case hr => first | (go_simp; done) | (go_simp; rfl)); intro b1 hg w1 hbx hbl; have K1 := Aside0.mk (K0.out.below hbl); have X1 := Aside0.mk hbx; have G1 := Aside0.mk hg; clear hbx hbl hg) | ((with_reducible refine gate_dst (N := 5) rfl ?_); refine lit_event ?hg (N := 5) ?hd (vs := [.int .u8 36, .int .u8 37]) (e := 5) (n := 2) ?hr ?_; (case hd => rfl); (case hg => rfl); (case hr => first | (go_simp; done) | (go_simp; rfl)); intro b2 hg w2 hbx hbl; have K2 := Aside0.mk (K1.out.below hbl); have X2 := Aside0.mk hbx; have G2 := Aside0.mk hg; have X1 := Aside0.mk (blk_below X1.out hbl); clear hbx hbl hg) | (go_at_call 80; refine (rd_left (k := k) (lv := 3) (mf := 118) (w0 := w0) (size := size) (ent_of 4) ?b HR.out HL.out K2.out.i K2.out.b ?s ?o (Nat.le_refl _) (Nat.le_refl _)).mono ?_; (case b => exact fun m hm l long r w0 w g size h1 h2 h3 h4 => (HIH.out m (by omega)).1 4 (by omega) l long r w0 w g size h1 h2 h3 h4); (case s => exact strs_foot (ss := sgW 3) X1.out (by have := G1.out; have := GL.out; omega) (by decide)); (case o => exact ops_foot (os := sgO 3) X2.out (by have := G2.out; have := K1.out.grows; have := GL.out; omega) (by decide)); rintro e w3 hp; obtain ⟨rfl, hb⟩ := hp))
    exact ⟨rfl, rfl, hb⟩
set_option maxHeartbeats 8000000 in
set_option maxRecDepth 100000 in
theorem rd_term {k : Nat} (IH : ∀ m, m < k + 1 → AllOk m) : Fn_ 118 (levS (k + 1) 4) := by
  intro l long r w0 w g size hr hl hI hB
  have K0 := Aside0.mk (Keeps.refl hI hB)
  have GL := Aside0.mk hI.lt
  have HL := Aside0.mk hl
  have HIH := Aside0.mk IH
  clear hI hB hl IH
  rw [levS, if_neg (by decide), if_neg (by simp)] at hr
  have HR := Aside0.mk hr
  clear hr
  cases r with
  | ok t l1 g1 =>
    go_enter Try.func118, Try.ntmps118
    go_wp2_with (first | ((with_reducible refine gate_dst (N := 4) rfl ?_); refine lit_event ?hg (N := 4) ?hd (vs := [.string (⟨#[42]⟩ : ByteArray), .string (⟨#[47]⟩ : ByteArray), .string (⟨#[37]⟩ : ByteArray)]) (e := 9) (n := 3) ?hr ?_; (case hd => rfl); (case hg => rfl); (case hr => first | (go_simp; done) | (go_simp; rfl)); intro b1 hg w1 hbx hbl; have K1 := Aside0.mk (K0.out.below hbl); have X1 := Aside0.mk hbx; have G1 := Aside0.mk hg; clear hbx hbl hg) | ((with_reducible refine gate_dst (N := 5) rfl ?_); refine lit_event ?hg (N := 5) ?hd (vs := [.int .u8 38, .int .u8 39, .int .u8 40]) (e := 5) (n := 3) ?hr ?_; (case hd => rfl); (case hg => rfl); (case hr => first | (go_simp; done) | (go_simp; rfl)); intro b2 hg w2 hbx hbl; have K2 := Aside0.mk (K1.out.below hbl); have X2 := Aside0.mk hbx; have G2 := Aside0.mk hg; have X1 := Aside0.mk (blk_below X1.out hbl); clear hbx hbl hg) | (go_at_call 80; refine (rd_left (k := k) (lv := 4) (mf := 121) (w0 := w0) (size := size) (ent_of 5) ?b HR.out HL.out K2.out.i K2.out.b ?s ?o (Nat.le_refl _) (Nat.le_refl _)).mono ?_; (case b => exact fun m hm l long r w0 w g size h1 h2 h3 h4 => (HIH.out m (by omega)).1 5 (by omega) l long r w0 w g size h1 h2 h3 h4); (case s => exact strs_foot (ss := sgW 4) X1.out (by have := G1.out; have := GL.out; omega) (by decide)); (case o => exact ops_foot (os := sgO 4) X2.out (by have := G2.out; have := K1.out.grows; have := GL.out; omega) (by decide)); rintro e w3 hp; obtain ⟨A3, c3, rfl, ht, hk, _⟩ := PostR.up K2.out hp; have T3 := Aside0.mk ht; have K3 := Aside0.mk hk; clear ht hk hp))
    go_ret
    exact PostR.ok_ T3.out K3.out
  | bad l1 =>
    go_enter Try.func118, Try.ntmps118
    go_wp2_with (first | ((with_reducible refine gate_dst (N := 4) rfl ?_); refine lit_event ?hg (N := 4) ?hd (vs := [.string (⟨#[42]⟩ : ByteArray), .string (⟨#[47]⟩ : ByteArray), .string (⟨#[37]⟩ : ByteArray)]) (e := 9) (n := 3) ?hr ?_; (case hd => rfl); (case hg => rfl); (case hr => first | (go_simp; done) | (go_simp; rfl)); intro b1 hg w1 hbx hbl; have K1 := Aside0.mk (K0.out.below hbl); have X1 := Aside0.mk hbx; have G1 := Aside0.mk hg; clear hbx hbl hg) | ((with_reducible refine gate_dst (N := 5) rfl ?_); refine lit_event ?hg (N := 5) ?hd (vs := [.int .u8 38, .int .u8 39, .int .u8 40]) (e := 5) (n := 3) ?hr ?_; (case hd => rfl); (case hg => rfl); (case hr => first | (go_simp; done) | (go_simp; rfl)); intro b2 hg w2 hbx hbl; have K2 := Aside0.mk (K1.out.below hbl); have X2 := Aside0.mk hbx; have G2 := Aside0.mk hg; have X1 := Aside0.mk (blk_below X1.out hbl); clear hbx hbl hg) | (go_at_call 80; refine (rd_left (k := k) (lv := 4) (mf := 121) (w0 := w0) (size := size) (ent_of 5) ?b HR.out HL.out K2.out.i K2.out.b ?s ?o (Nat.le_refl _) (Nat.le_refl _)).mono ?_; (case b => exact fun m hm l long r w0 w g size h1 h2 h3 h4 => (HIH.out m (by omega)).1 5 (by omega) l long r w0 w g size h1 h2 h3 h4); (case s => exact strs_foot (ss := sgW 4) X1.out (by have := G1.out; have := GL.out; omega) (by decide)); (case o => exact ops_foot (os := sgO 4) X2.out (by have := G2.out; have := K1.out.grows; have := GL.out; omega) (by decide)); rintro e w3 hp; obtain ⟨rfl, hb⟩ := hp))
    exact ⟨rfl, rfl, hb⟩
end Go.Proofs.Ytlbchdalimngjaa.P
namespace Go.Proofs.Ytlbchdalimngjaa.P
open Go.RowKit Go.Proofs.YtlbchdalimngjaaW.PrintWords Go.Proofs.YtlbchdalimngjaaW.PrintLast Go.Proofs.YtlbchdalimngjaaW.PrintMore
set_option linter.unusedVariables false
set_option linter.unusedSimpArgs false
def Sr (w W : World) (v : Value) (ts : List (List Twg)) : Prop := Kd.S (Kd.slice 43 k43) 36 W w.heap.size (fun _ => True) v ts ∧ ∀ t ∈ ts, t.length ≤ 2048
section
variable {w0 w W W1 : World} {g : Nat} {v : Value} {ts : List (List Twg)} {t : List Twg} {A : Option Addr} {c : Nat}
theorem Sr.nil (w W : World) : Sr w W (.slice none 0 0) [] := ⟨Kd.S_nil _ _ _ _ _, by simp⟩
theorem Sr.below (h : Sr w W v ts) (hk : Below W.heap.size W W1) : Sr w W1 v ts := ⟨Kd.S_below h.1 hk, h.2⟩
theorem Sr.keep (h : Sr w W v ts) (hg : g < w.heap.size) (hk : KeepBut W W1 g none) : Sr w W1 v ts :=
  ⟨Kd.S_mono (Kd.S_keep (Kd.S_bound h.1) hk (fun k hk => by have := hk.2.1; omega)) (fun _ _ => trivial), h.2⟩
theorem Sr.call (h : Sr w W v ts) (hg : g < w.heap.size) (hk : KeepBut W W1 g none) : Kd.S (Kd.slice 43 k43) 36 W1 w.heap.size (fun k => k < W.heap.size) v ts :=
  Kd.S_mono (Kd.S_keep (Kd.S_bound h.1) hk (fun k hk => by have := hk.2.1; omega)) (fun _ hk => hk.2.2.1)
theorem Sr.foot (h : Sr w W v ts) (hg : g < w.heap.size) : ∃ A c, v = .slice A ts.length c ∧ ts.length ≤ c ∧ ∀ W_, KeepBut W W_ g none → Kd.C (Kd.slice 43 k43) W_ A ts.length ts := by
  obtain ⟨A, c, rfl, hc, _⟩ := Kd.S_reads h.1
  exact ⟨A, c, rfl, hc, fun W_ hk => (Kd.S_reads' (h.keep hg hk).1).2.2⟩
theorem Sr.snoc (h : Sr w W v ts) (ht : t.length ≤ 2048) : ∀ u ∈ ts ++ [t], u.length ≤ 2048 := by
  intro u hu
  rcases List.mem_append.1 hu with hu | hu
  · exact h.2 u hu
  · rw [List.mem_singleton] at hu; rw [hu]; exact ht
theorem Sr.lower {w1 : World} (h : Sr w1 W v ts) (hs : w.heap.size ≤ w1.heap.size) : Sr w W v ts := ⟨Kd.S_lower h.1 hs, h.2⟩
variable {P : Program} {ops : Array Oper} {rest : List Oper} {o : Oper} {a : Act} {Q : Exit → Act → World → Prop}
theorem trees_append {B : Nat} (hB : w.heap.size ≤ B) (hBW : B ≤ W.heap.size) (hgd : o.guard = none) (s x : Operand)
    (ho : o.op = .call { callee := .builtin .append, args := #[s, x], argTypes := #[38, 38] }) (hs : a.eval s = v) (hx : a.eval x = .slice (some ⟨W.heap.size, 0, none⟩) 1 1)
    (hS : Kd.S (Kd.slice 43 k43) 36 W w.heap.size (fun k => k < B) v ts) (hl : ts.length ≤ 1000000) (hT : Kd.R k43 43 W B (fun _ => True) (.slice A t.length c) t)
    (h : ∀ A1 c1 w1, Kd.S (Kd.slice 43 k43) 36 w1 w.heap.size (fun _ => True) (.slice A1 (ts ++ [t]).length c1) (ts ++ [t]) → Below w.heap.size W w1 → wpList Try.prog ops Q rest (a.put o.dst (.slice A1 (ts ++ [t]).length c1)) w1) :
    wpList Try.prog ops Q (o :: rest) a (W.alloc (.cells #[.slice A t.length c] 36 (0, 0))) := by
  refine Kd.S_append (Kd.slice 43 k43) (w0 := W) w.heap.size hgd s x 38 36 (.slice none 0 0) 24 ho Try.underlying38 info36 rfl (by decide) (by omega) v ts t [.slice A t.length c] (fun _ => True) (fun k => B ≤ k) hs hx ?_ ?_ (fun _ _ => trivial) ?_ (Below.refl _ _) (Nat.le_trans hB hBW) (by omega) ?_
  · exact Kd.M_row (Kd.R_lower (Kd.R_mono (Kd.R_bound hT) (fun k hk => hk.2.1)) hB)
  · intro k hk
    refine ⟨trivial, fun he => ?_⟩
    have := (Kd.S_R hS).1 k he.symm
    omega
  · exact Kd.S_mono hS (fun k hk => ⟨trivial, by omega⟩)
  · intro v1 w1 h1 h2 _ _
    obtain ⟨A1, c1, rfl, _, _⟩ := Kd.S_reads h1
    exact h A1 c1 w1 h1 h2
end
section
variable {w0 w W W1 : World} {g : Nat} {l : List Tok} {size : Int} {lg : Bool} {v : Value} {t : List Twg}
theorem KeepBut.own_below (h : KeepBut w W g none) (k : Below w.heap.size W W1) : KeepBut w W1 g none :=
  ⟨Nat.le_trans h.1 k.size, fun i hi hg hr => (k.block i hi).trans (h.2 i hi hg hr)⟩
theorem Keeps.own (h : Keeps w0 w W g l size lg) (hg : g < w.heap.size) (k : Below w.heap.size W W1) : Keeps w0 w W1 g l size lg := by
  obtain ⟨A, c, hb, h1, h2, h3⟩ := h.i
  refine ⟨⟨A, c, (k.block g hg).trans hb, h1, h2, h3⟩, ?_, KeepBut.own_below h.k k⟩
  have hle : w0.heap.size ≤ w.heap.size := by omega
  exact h.b.trans ⟨k.os, k.tape, k.output, k.size, fun i hi => k.block i (Nat.lt_of_lt_of_le hi hle)⟩
end
end Go.Proofs.Ytlbchdalimngjaa.P
namespace Go.Proofs.Ytlbchdalimngjaa.P
open Go.RowKit Go.Proofs.YtlbchdalimngjaaW.PrintWords Go.Proofs.YtlbchdalimngjaaW.PrintLast Go.Proofs.YtlbchdalimngjaaW.PrintMore
set_option linter.unusedVariables false
set_option linter.unusedSimpArgs false
section
variable {w0 w W : World} {g : Nat} {l r : List Tok} {x : Tok} {size : Int} {lg lg' : Bool} {t : List Twg} {s : ByteArray}
def Stp (w0 w W : World) (g : Nat) (l : List Tok) (size : Int) (lg : Bool) (w' : World) : Prop := Keeps w0 w w' g l size lg ∧ KeepBut W w' g none
theorem Stp.k {w' : World} (h : Stp w0 w W g l size lg w') : Keeps w0 w w' g l size lg := h.1
theorem Stp.b {w' : World} (h : Stp w0 w W g l size lg w') : KeepBut W w' g none := h.2
theorem Stp.of {w' : World} (K : Keeps w0 w W g l size lg) (h1 : IsRd w0 w' g r size lg') (h2 : Below w0.heap.size w0 w') (h3 : KeepBut W w' g none) : Stp w0 w W g r size lg' w' := ⟨K.then_ ⟨h1, h2, h3⟩, h3⟩
def Thr (w0 : World) (l : List Tok) (size : Int) (e : Ending) (w' : World) : Prop := e = .panicked (faultC l size) ∧ Below w0.heap.size w0 w'
theorem ks_has_f (s : ByteArray) (K : Keeps w0 w W g l size lg) (hs : isB l s = false) : Calls Try.prog 99 #[.pointer (some ⟨g, 0, none⟩), .string s] W fun e w' => e = .returned (.bool false) ∧ W = w' := (rd_has_f s K.i K.b hs).mono fun _ _ h => ⟨h.1, h.2.symm⟩
theorem ks_is {b : Bool} (s : ByteArray) (K : Keeps w0 w W g l size lg) (hs : isB l s = b) : Calls Try.prog 111 #[.pointer (some ⟨g, 0, none⟩), .string s] W fun e w' => e = .returned (.bool b) ∧ W = w' := by subst hs; exact (rd_is s K.i K.b).mono fun _ _ h => ⟨h.1, h.2.symm⟩
theorem ks_has_t (s : ByteArray) (K : Keeps w0 w W g (x :: r) size lg) (hs : isB (x :: r) s = true) : Calls Try.prog 99 #[.pointer (some ⟨g, 0, none⟩), .string s] W fun e w' => e = .returned (.bool true) ∧ Stp w0 w W g r size lg w' :=
  (rd_has_t s K.i K.b hs).mono fun e w' ⟨h1, h2, h3, h4⟩ => ⟨h1, .of K h2 h3 h4⟩
theorem ks_must_t (s : ByteArray) (K : Keeps w0 w W g (x :: r) size lg) (hs : isB (x :: r) s = true) : Calls Try.prog 84 #[.pointer (some ⟨g, 0, none⟩), .string s] W fun e w' => e = .returned (.tuple #[]) ∧ Stp w0 w W g r size lg w' :=
  (rd_must_t s K.i K.b hs).mono fun e w' ⟨h1, h2, h3, h4⟩ => ⟨h1, .of K h2 h3 h4⟩
theorem ks_must_f (s : ByteArray) (K : Keeps w0 w W g l size lg) (hs : isB l s = false) : Calls Try.prog 84 #[.pointer (some ⟨g, 0, none⟩), .string s] W (Thr w0 l size) :=
  (rd_must_f s K.i K.b hs).mono fun e w' ⟨h1, h2⟩ => ⟨h1, by rw [h2]; exact K.b⟩
theorem ks_fault (K : Keeps w0 w W g l size lg) : Calls Try.prog 79 #[.pointer (some ⟨g, 0, none⟩)] W (Thr w0 l size) :=
  (rd_fault K.i K.b).mono fun e w' ⟨h1, h2⟩ => ⟨h1, by rw [h2]; exact K.b⟩
theorem ks_mine {b : Bool} (K : Keeps w0 w W g l size lg) (hm : mineB l = b) : Calls Try.prog 107 #[.pointer (some ⟨g, 0, none⟩)] W fun e w' => e = .returned (.bool b) ∧ Stp w0 w W g l size lg w' := by
  subst hm
  refine (rd_mine K.i K.b).mono fun e w' ⟨h1, n, h2⟩ => ⟨h1, ?_⟩
  rw [h2]
  exact ⟨K.drewN n, KeepBut.of_below (pw_below_drewN (Below.refl _ _) n) g none⟩
theorem ks_own_t (K : Keeps w0 w W g (x :: r) size lg) (hm : mineB (x :: r) = true) : Calls Try.prog 85 #[.pointer (some ⟨g, 0, none⟩)] W fun e w' => e = .returned (.string x.f1) ∧ Stp w0 w W g r size lg w' :=
  (rd_own_t K.i K.b hm).mono fun e w' ⟨h1, h2, h3, h4⟩ => ⟨h1, .of K h2 h3 h4⟩
theorem ks_own_f (K : Keeps w0 w W g l size lg) (hm : mineB l = false) : Calls Try.prog 85 #[.pointer (some ⟨g, 0, none⟩)] W (Thr w0 l size) :=
  (rd_own_f K.i K.b hm).mono fun e w' ⟨h1, n, h2⟩ => ⟨h1, by rw [h2]; exact (K.drewN n).b⟩
def Got (w0 w W : World) (g : Nat) (l : List Tok) (size : Int) (lg : Bool) (t : List Twg) (e : Ending) (w' : World) : Prop := ∃ A c, e = .returned (.slice A t.length c) ∧ Tr w w' (.slice A t.length c) t ∧ Stp w0 w W g l size lg w'
theorem Got.of {e : Ending} {w' : World} (K : Keeps w0 w W g l size lg) (h : PostR w0 W g size (.ok t r lg') e w') : Got w0 w W g r size lg' t e w' := by
  obtain ⟨A, c, h1, h2, h3, h4⟩ := PostR.up K h
  exact ⟨A, c, h1, h2, h3, h4⟩
theorem ks_call {mf : Nat} {S : List Tok → Bool → Option Res} (h : Fn_ mf S) (hr : S l lg = some (.ok t r lg')) (hl : l.length ≤ 100000) (K : Keeps w0 w W g l size lg) : Calls Try.prog mf #[.pointer (some ⟨g, 0, none⟩)] W (Got w0 w W g r size lg' t) :=
  (fn_at h hr hl K.i K.b).mono fun e w' hp => Got.of K hp
theorem ks_call_bad {mf : Nat} {S : List Tok → Bool → Option Res} (h : Fn_ mf S) (hr : S l lg = some (.bad r)) (hl : l.length ≤ 100000) (K : Keeps w0 w W g l size lg) : Calls Try.prog mf #[.pointer (some ⟨g, 0, none⟩)] W (Thr w0 r size) :=
  fn_at h hr hl K.i K.b
end
section
variable {w0 w W W1 : World} {g : Nat} {l : List Tok} {size : Int} {lg : Bool} {v : Value} {t u : List Twg} {ts : List (List Twg)} {A A2 : Option Addr} {c d : Nat}
theorem Tr.call (h : Tr w W v t) (hg : g < w.heap.size) (hk : KeepBut W W1 g none) : Kd.R k43 43 W1 w.heap.size (fun k => k < W.heap.size) v t :=
  Kd.R_mono (Kd.R_keep (Kd.R_bound h.1) hk (fun k hk => by have := hk.2.1; omega)) (fun _ hk => hk.2.2.1)
theorem Sr.foot' (h : Sr w W (.slice A ts.length c) ts) (hg : g < w.heap.size) : ts.length ≤ c ∧ ∀ W_, KeepBut W W_ g none → Kd.C (Kd.slice 43 k43) W_ A ts.length ts := by
  obtain ⟨A', c', e, h1, h2⟩ := h.foot hg
  injection e with e1 _ e2
  rw [e1, e2]
  exact ⟨h1, h2⟩
theorem rd_of_row {x0 x2 : Int} {x3 : ByteArray} (K : Keeps w0 w W g l size lg) (GL : g < w.heap.size) (S : Sr w W (.slice A ts.length c) ts) (hn : ts.length ≤ 1000000) :
    Calls Try.prog 88 #[.pointer (some ⟨g, 0, none⟩), .agg #[.int .u8 x0, .int .i64 0, .int .i64 x2, .string x3], .slice A ts.length c] W
      (PostO w0 w g size l (ofS ⟨x0, 0, x2, x3⟩ ts lg)) := by
  obtain ⟨hc, hf⟩ := S.foot' GL
  exact (rd_of (⟨x0, 0, x2, x3⟩ : Twg) (parts := ts) (w0 := w0) (l := l) (long := lg) (size := size) K.i K.b hf hc hn (fun p hp => S.2 p hp)).mono fun e w' h => of_post K h
variable {P : Program} {ops : Array Oper} {rest : List Oper} {o : Oper} {a : Act} {Q : Exit → Act → World → Prop}
theorem trees_lit2 {B : Nat} (hB : w.heap.size ≤ B) (hBW : B ≤ W.heap.size) (hgd : o.guard = none) {N : Tmp} (_hd : o.dst = some N)
    (hrun : (execOp a.eval o).run P W = .ok (.value (.slice (some ⟨W.heap.size, 0, none⟩) 2 2)) (W.alloc (.cells #[.slice A t.length c, .slice A2 u.length d] 36)))
    (hT : Kd.R k43 43 W w.heap.size (fun k => k < B) (.slice A t.length c) t) (hU : Kd.R k43 43 W B (fun _ => True) (.slice A2 u.length d) u) (ht : t.length ≤ 2048) (hu : u.length ≤ 2048)
    (h : ∀ A1 c1 w1, Sr w w1 (.slice A1 2 c1) [t, u] → Below w.heap.size W w1 → wpList P ops Q rest (a.put o.dst (.slice A1 2 c1)) w1) : wpList P ops Q (o :: rest) a W := by
  refine Kd.S_lits (Kd.slice 43 k43) (w0 := W) w.heap.size 36 hgd _hd (xs := [t, u]) (inner := [.slice A t.length c, .slice A2 u.length d]) (ok := fun _ => True) (fun j k => (j = 0 ∧ k < B) ∨ (j = 1 ∧ B ≤ k)) hrun rfl ?_ ?_ (fun _ _ _ => trivial) trivial (Below.refl _ _) (Nat.le_trans hB hBW) (by simp) ?_
  · intro j x hj
    match j with
    | 0 => obtain rfl := Option.some.inj hj; exact Kd.M_row (Kd.R_mono hT (fun k hk => .inl ⟨rfl, hk⟩))
    | 1 => obtain rfl := Option.some.inj hj; exact Kd.M_row (Kd.R_mono (Kd.R_lower (Kd.R_bound hU) hB) (fun k hk => .inr ⟨rfl, hk.2.1⟩))
    | j + 2 => cases hj
  · intro i j k h1 h2
    omega
  · intro v1 w1 hS hb _ _
    obtain ⟨A1, c1, rfl, _, _⟩ := Kd.S_reads hS
    refine h A1 c1 w1 ⟨hS, ?_⟩ hb
    intro p hp
    rcases List.mem_cons.1 hp with rfl | hp
    · exact ht
    · rw [List.mem_singleton] at hp; rw [hp]; exact hu
end
end Go.Proofs.Ytlbchdalimngjaa.P
namespace Go.Proofs.Ytlbchdalimngjaa.P
open Go.RowKit Go.Proofs.YtlbchdalimngjaaW.PrintWords Go.Proofs.YtlbchdalimngjaaW.PrintLast Go.Proofs.YtlbchdalimngjaaW.PrintMore
attribute [local go_sem] mk_run' mk_events'
set_option linter.unusedVariables false
set_option linter.unusedSimpArgs false
set_option maxHeartbeats 8000000 in
set_option maxRecDepth 100000 in
theorem rd_one {k : Nat} (IH : ∀ m, m < k + 1 → AllOk m) (op : Int) {l : List Tok} {long : Bool} {r : Res} {w0 w : World} {g : Nat} {size : Int} (hr : oneS (k + 1) op l long = some r) (hl : l.length ≤ 100000) (hI : IsRd w0 w g l size long) (hB : Below w0.heap.size w0 w) :
    Calls Try.prog 127 #[.pointer (some ⟨g, 0, none⟩), .int .u8 op] w (PostR w0 w g size r) := by
  have K0 := Aside0.mk (Keeps.refl hI hB)
  have GL := Aside0.mk hI.lt
  have HL0 := Aside0.mk hl
  have HIH := Aside0.mk IH
  clear hI hB hl IH
  rw [oneS] at hr
  rcases mustS_inv hr with ⟨x0, m0, rfl, hn, hr⟩ | ⟨hn, rfl⟩
  · have HN0 := Aside0.mk hn
    have HL1 := Aside0.mk (show m0.length ≤ 100000 by have := HL0.out; rw [List.length_cons] at this; omega)
    clear hn
    rcases andThen_inv hr with ⟨t2, m1, g2, h1, hr⟩ | ⟨m1, h1, rfl⟩
    · have H1 := Aside0.mk h1
      have HL2 := Aside0.mk (Nat.le_trans ((all_sh k).1 _ _ _ _ h1).1.length_le HL1.out)
      clear h1
      rcases mustS_inv hr with ⟨x2, m2, rfl, hn, hr⟩ | ⟨hn, rfl⟩
      · have HN2 := Aside0.mk hn
        have HL3 := Aside0.mk (show m2.length ≤ 100000 by have := HL2.out; rw [List.length_cons] at this; omega)
        clear hn
        obtain rfl := Option.some.inj hr
        clear hr
        go_enter Try.func127, Try.ntmps127
        go_wp2_with (first | (go_at_call 84; (with_reducible refine (ks_must_t (⟨#[40]⟩ : ByteArray) K0.out HN0.out).mono ?_); rintro e w1 ⟨rfl, hk⟩; have K1 := Aside0.mk hk.k; clear hk) | (go_at_call 57; (with_reducible refine (ks_call (HIH.out k (Nat.lt_succ_self k)).expr_ H1.out HL1.out K1.out).mono ?_); rintro e w2 ⟨A2, c2, rfl, ht, hk⟩; have K2 := Aside0.mk hk.k; have T2 := Aside0.mk ht; clear ht hk) | (go_at_call 84; (with_reducible refine (ks_must_t (⟨#[41]⟩ : ByteArray) K2.out HN2.out).mono ?_); rintro e w3 ⟨rfl, hk⟩; have K3 := Aside0.mk hk.k; replace T2 := Aside0.mk (T2.out.keep GL.out hk.b); clear hk) | (go_at_call 88; refine (rd_of1 K3.out GL.out T2.out).mono ?_; rintro e w4 ⟨A90, c90, rfl, ht, hk⟩; have T90 := Aside0.mk ht; have K4 := Aside0.mk hk; clear ht hk))
        go_ret
        exact PostR.ok_ T90.out K4.out
      · have HN2 := Aside0.mk hn
        clear hn
        go_enter Try.func127, Try.ntmps127
        go_wp2_with (first | (go_at_call 84; (with_reducible refine (ks_must_t (⟨#[40]⟩ : ByteArray) K0.out HN0.out).mono ?_); rintro e w1 ⟨rfl, hk⟩; have K1 := Aside0.mk hk.k; clear hk) | (go_at_call 57; (with_reducible refine (ks_call (HIH.out k (Nat.lt_succ_self k)).expr_ H1.out HL1.out K1.out).mono ?_); rintro e w2 ⟨A2, c2, rfl, ht, hk⟩; have K2 := Aside0.mk hk.k; have T2 := Aside0.mk ht; clear ht hk) | (go_at_call 84; (with_reducible refine (ks_must_f (⟨#[41]⟩ : ByteArray) K2.out HN2.out).mono ?_); rintro e w' ⟨rfl, hb⟩))
        exact ⟨rfl, rfl, hb⟩
    · have H1 := Aside0.mk h1
      clear h1
      go_enter Try.func127, Try.ntmps127
      go_wp2_with (first | (go_at_call 84; (with_reducible refine (ks_must_t (⟨#[40]⟩ : ByteArray) K0.out HN0.out).mono ?_); rintro e w1 ⟨rfl, hk⟩; have K1 := Aside0.mk hk.k; clear hk) | (go_at_call 57; (with_reducible refine (ks_call_bad (HIH.out k (Nat.lt_succ_self k)).expr_ H1.out HL1.out K1.out).mono ?_); rintro e w' ⟨rfl, hb⟩))
      exact ⟨rfl, rfl, hb⟩
  · have HN0 := Aside0.mk hn
    clear hn
    go_enter Try.func127, Try.ntmps127
    go_wp2_with (first | (go_at_call 84; (with_reducible refine (ks_must_f (⟨#[40]⟩ : ByteArray) K0.out HN0.out).mono ?_); rintro e w' ⟨rfl, hb⟩))
    exact ⟨rfl, rfl, hb⟩
section
variable {w0 w W : World} {g : Nat} {l r : List Tok} {size : Int} {lg lg' : Bool} {t : List Twg}
theorem one_at {k : Nat} (IH : ∀ m, m < k → AllOk m) (op : Int) {q : Res} (hr : oneS k op l lg = some q) (hl : l.length ≤ 100000) (K : Keeps w0 w W g l size lg) : Calls Try.prog 127 #[.pointer (some ⟨g, 0, none⟩), .int .u8 op] W (PostR w0 W g size q) := by
  cases k with
  | zero => simp [oneS] at hr
  | succ k => exact rd_one IH op hr hl K.i K.b
theorem ks_one {k : Nat} (IH : ∀ m, m < k → AllOk m) (op : Int) (hr : oneS k op l lg = some (.ok t r lg')) (hl : l.length ≤ 100000) (K : Keeps w0 w W g l size lg) : Calls Try.prog 127 #[.pointer (some ⟨g, 0, none⟩), .int .u8 op] W (Got w0 w W g r size lg' t) :=
  (one_at IH op hr hl K).mono fun e w' hp => Got.of K hp
theorem ks_one_bad {k : Nat} (IH : ∀ m, m < k → AllOk m) (op : Int) (hr : oneS k op l lg = some (.bad r)) (hl : l.length ≤ 100000) (K : Keeps w0 w W g l size lg) : Calls Try.prog 127 #[.pointer (some ⟨g, 0, none⟩), .int .u8 op] W (Thr w0 r size) := one_at IH op hr hl K
theorem Tr.one {x : Twg} {v : Value} (h : Kd.R k43 43 W w.heap.size (fun _ => True) v [x]) : Tr w W v [x] := ⟨h, by simp⟩
end
end Go.Proofs.Ytlbchdalimngjaa.P
namespace Go.Proofs.Ytlbchdalimngjaa.P
open Go.RowKit Go.Proofs.YtlbchdalimngjaaW.PrintWords Go.Proofs.YtlbchdalimngjaaW.PrintLast Go.Proofs.YtlbchdalimngjaaW.PrintMore
attribute [local go_sem] mk_run' mk_events'
set_option linter.unusedVariables false
set_option linter.unusedSimpArgs false
set_option maxHeartbeats 8000000 in
set_option maxRecDepth 100000 in
theorem rd_stmt {k : Nat} (IH : ∀ m, m < k + 1 → AllOk m) : Fn_ 108 (stmtS (k + 1)) := by
  intro l long r w0 w g size hr hl hI hB
  have K0 := Aside0.mk (Keeps.refl hI hB)
  have GL := Aside0.mk hI.lt
  have HL0 := Aside0.mk hl
  have HIH := Aside0.mk IH
  clear hI hB hl IH
  rw [stmtS] at hr
  rcases ite_inv hr with ⟨hn, hr⟩ | ⟨hn, hr⟩
  · have HN0 := Aside0.mk hn
    have HL1 := Aside0.mk HL0.out
    clear hn
    rcases ownS_inv hr with ⟨x1, m1, rfl, hn, hr⟩ | ⟨hn, rfl⟩
    · have HN1 := Aside0.mk hn
      have HL2 := Aside0.mk (show m1.length ≤ 100000 by have := HL1.out; rw [List.length_cons] at this; omega)
      clear hn
      have HL3 := Aside0.mk HL2.out
      rcases mustS_inv hr with ⟨x2, m2, rfl, hn, hr⟩ | ⟨hn, rfl⟩
      · have HN2 := Aside0.mk hn
        have HL4 := Aside0.mk (show m2.length ≤ 100000 by have := HL3.out; rw [List.length_cons] at this; omega)
        clear hn
        rcases andThen_inv hr with ⟨t1, m3, g1, h1, hr⟩ | ⟨m3, h1, rfl⟩
        · have H3 := Aside0.mk h1
          obtain rfl := Option.some.inj hr
          clear h1 hr
          go_enter Try.func108, Try.ntmps108
          go_upto_region 3 with (first | (go_at_call 107; (with_reducible refine (ks_mine K0.out HN0.out).mono ?_); rintro e w1 ⟨rfl, hk⟩; have K1 := Aside0.mk hk.k; clear hk) | (go_at_call 85; (with_reducible refine (ks_own_t K1.out HN1.out).mono ?_); rintro e w2 ⟨rfl, hk⟩; have K2 := Aside0.mk hk.k; clear hk))
          obtain ⟨b1, hbb⟩ : ∃ b, b = w2.heap.size := ⟨_, rfl⟩
          obtain ⟨w3, hww⟩ : ∃ W : World, W = w2.alloc (.cells #[.int .u8 5, .int .i64 0, .int .i64 0, .string x1.f1] 43 (0, 0)) := ⟨_, rfl⟩
          have K3 := Aside0.mk (show Keeps w0 w w3 g _ size _ by rw [hww]; exact K2.out.alloc _)
          have X1 := Aside0.mk (show w3.heap[b1]? = some (.cells #[.int .u8 5, .int .i64 0, .int .i64 0, .string x1.f1] 43 (0, 0)) by rw [hww, hbb]; exact blk_new _ _)
          have Y1 := Aside0.mk (show g < b1 by rw [hbb]; exact K2.out.i.lt)
          rw [← hww, ← hbb]
          clear hww hbb
          go_upto_region 4 with (first | (go_at_call 84; (with_reducible refine (ks_must_t (⟨#[61]⟩ : ByteArray) K3.out HN2.out).mono ?_); rintro e w4 ⟨rfl, hk⟩; have K4 := Aside0.mk hk.k; replace X1 := Aside0.mk (hk.b.blk X1.out (by have := Y1.out; omega) (by simp)); clear hk))
          have HSK : Aside0 (∀ W' : World, KeepBut w4 W' g none → W'.cell? ⟨b1, 0, none⟩ = some (.int .u8 5) ∧ W'.cell? ⟨b1, 1, none⟩ = some (.int .i64 0) ∧ W'.cell? ⟨b1, 2, none⟩ = some (.int .i64 0) ∧ W'.cell? ⟨b1, 3, none⟩ = some (.string x1.f1)) := ⟨fun W' hk => by have h := hk.blk X1.out (by have := Y1.out; omega) (by simp); exact ⟨(blk_cell h 0).trans rfl, (blk_cell h 1).trans rfl, (blk_cell h 2).trans rfl, (blk_cell h 3).trans rfl⟩⟩
          have KD := Aside0.mk (Keeps.drew (Keeps.refl K4.out.i K4.out.b))
          have GD := Aside0.mk K4.out.i.lt
          go_region_held3 (fun W' => W'.cell? ⟨b1, 0, none⟩ = some (.int .u8 5) ∧ W'.cell? ⟨b1, 1, none⟩ = some (.int .i64 0) ∧ W'.cell? ⟨b1, 2, none⟩ = some (.int .i64 0) ∧ W'.cell? ⟨b1, 3, none⟩ = some (.string x1.f1)) (first | exact HSK.out _ (KeepBut.refl _ _ _) | exact HSK.out _ (keep_drew (KeepBut.refl _ _ _)) | exact HSK.out _ K90.out.k | exact HSK.out _ (keep_alloc K90.out.k _) | exact HSK.out _ (keep_drew (keep_alloc K90.out.k _)) | exact HSK.out _ K91.out.k) (first | (go_at_call 57; (with_reducible refine (ks_call (HIH.out k (Nat.lt_succ_self k)).expr_ H3.out HL4.out KD.out).mono ?_); rintro e w90 ⟨A90, c90, rfl, ht, hk⟩; have T90 := Aside0.mk (ht); have K90 := Aside0.mk hk.k; clear ht hk) | (go_at_call 88; refine (rd_of1 K90.out GD.out T90.out).mono ?_; rintro e w91 ⟨A91, c91, rfl, ht, hk⟩; have T91 := Aside0.mk ht; have K91 := Aside0.mk hk; clear ht hk))
          go_wp2
          go_ret
          exact PostR.ok_ (T91.out.lower K4.out.grows) (K4.out.then_ K91.out)
        · have H3 := Aside0.mk h1
          clear h1
          go_enter Try.func108, Try.ntmps108
          go_upto_region 3 with (first | (go_at_call 107; (with_reducible refine (ks_mine K0.out HN0.out).mono ?_); rintro e w1 ⟨rfl, hk⟩; have K1 := Aside0.mk hk.k; clear hk) | (go_at_call 85; (with_reducible refine (ks_own_t K1.out HN1.out).mono ?_); rintro e w2 ⟨rfl, hk⟩; have K2 := Aside0.mk hk.k; clear hk))
          obtain ⟨b1, hbb⟩ : ∃ b, b = w2.heap.size := ⟨_, rfl⟩
          obtain ⟨w3, hww⟩ : ∃ W : World, W = w2.alloc (.cells #[.int .u8 5, .int .i64 0, .int .i64 0, .string x1.f1] 43 (0, 0)) := ⟨_, rfl⟩
          have K3 := Aside0.mk (show Keeps w0 w w3 g _ size _ by rw [hww]; exact K2.out.alloc _)
          have X1 := Aside0.mk (show w3.heap[b1]? = some (.cells #[.int .u8 5, .int .i64 0, .int .i64 0, .string x1.f1] 43 (0, 0)) by rw [hww, hbb]; exact blk_new _ _)
          have Y1 := Aside0.mk (show g < b1 by rw [hbb]; exact K2.out.i.lt)
          rw [← hww, ← hbb]
          clear hww hbb
          go_upto_region 4 with (first | (go_at_call 84; (with_reducible refine (ks_must_t (⟨#[61]⟩ : ByteArray) K3.out HN2.out).mono ?_); rintro e w4 ⟨rfl, hk⟩; have K4 := Aside0.mk hk.k; replace X1 := Aside0.mk (hk.b.blk X1.out (by have := Y1.out; omega) (by simp)); clear hk))
          have HSK : Aside0 (∀ W' : World, KeepBut w4 W' g none → W'.cell? ⟨b1, 0, none⟩ = some (.int .u8 5) ∧ W'.cell? ⟨b1, 1, none⟩ = some (.int .i64 0) ∧ W'.cell? ⟨b1, 2, none⟩ = some (.int .i64 0) ∧ W'.cell? ⟨b1, 3, none⟩ = some (.string x1.f1)) := ⟨fun W' hk => by have h := hk.blk X1.out (by have := Y1.out; omega) (by simp); exact ⟨(blk_cell h 0).trans rfl, (blk_cell h 1).trans rfl, (blk_cell h 2).trans rfl, (blk_cell h 3).trans rfl⟩⟩
          have KD := Aside0.mk (Keeps.drew (Keeps.refl K4.out.i K4.out.b))
          have GD := Aside0.mk K4.out.i.lt
          obtain ⟨hc0, hc1, hc2, hc3⟩ := HSK.out _ (KeepBut.refl _ _ _)
          go_region_held2 (fun W' => W'.cell? ⟨b1, 0, none⟩ = some (.int .u8 5) ∧ W'.cell? ⟨b1, 1, none⟩ = some (.int .i64 0) ∧ W'.cell? ⟨b1, 2, none⟩ = some (.int .i64 0) ∧ W'.cell? ⟨b1, 3, none⟩ = some (.string x1.f1)) (first | exact HX.out.elim | exact HSK.out _ (KeepBut.refl _ _ _) | exact HSK.out _ (keep_drew (KeepBut.refl _ _ _))) (first | (go_at_call 57; refine calls_dies (c := faultC m3 size) (R := fun w' => Below w0.heap.size w0 w') (ks_call_bad (HIH.out k (Nat.lt_succ_self k)).expr_ H3.out HL4.out KD.out) ?hp ?_; (case hp => intro w' h; exact ⟨rfl, rfl, h⟩); intro A90 n90 c90 w90 hF; have HX := Aside0.mk hF; have hx0 : w90.cell? ⟨b1, 0, none⟩ = some (.int .u8 5) := hF.elim; have hx1 : w90.cell? ⟨b1, 1, none⟩ = some (.int .i64 0) := hF.elim; have hx2 : w90.cell? ⟨b1, 2, none⟩ = some (.int .i64 0) := hF.elim; have hx3 : w90.cell? ⟨b1, 3, none⟩ = some (.string x1.f1) := hF.elim; clear hF) | (go_at_call 88; refine calls_never HX.out ?_; intro A91 n91 c91 w91))
          all_goals exact HX.out.elim
      · have HN2 := Aside0.mk hn
        clear hn
        go_enter Try.func108, Try.ntmps108
        go_upto_region 3 with (first | (go_at_call 107; (with_reducible refine (ks_mine K0.out HN0.out).mono ?_); rintro e w1 ⟨rfl, hk⟩; have K1 := Aside0.mk hk.k; clear hk) | (go_at_call 85; (with_reducible refine (ks_own_t K1.out HN1.out).mono ?_); rintro e w2 ⟨rfl, hk⟩; have K2 := Aside0.mk hk.k; clear hk))
        obtain ⟨b1, hbb⟩ : ∃ b, b = w2.heap.size := ⟨_, rfl⟩
        obtain ⟨w3, hww⟩ : ∃ W : World, W = w2.alloc (.cells #[.int .u8 5, .int .i64 0, .int .i64 0, .string x1.f1] 43 (0, 0)) := ⟨_, rfl⟩
        have K3 := Aside0.mk (show Keeps w0 w w3 g _ size _ by rw [hww]; exact K2.out.alloc _)
        have X1 := Aside0.mk (show w3.heap[b1]? = some (.cells #[.int .u8 5, .int .i64 0, .int .i64 0, .string x1.f1] 43 (0, 0)) by rw [hww, hbb]; exact blk_new _ _)
        have Y1 := Aside0.mk (show g < b1 by rw [hbb]; exact K2.out.i.lt)
        rw [← hww, ← hbb]
        clear hww hbb
        go_wp2_with (first | (go_at_call 84; (with_reducible refine (ks_must_f (⟨#[61]⟩ : ByteArray) K3.out HN2.out).mono ?_); rintro e w' ⟨rfl, hb⟩))
        exact ⟨rfl, rfl, hb⟩
    · have HN1 := Aside0.mk hn
      clear hn
      go_enter Try.func108, Try.ntmps108
      go_wp2_with (first | (go_at_call 107; (with_reducible refine (ks_mine K0.out HN0.out).mono ?_); rintro e w1 ⟨rfl, hk⟩; have K1 := Aside0.mk hk.k; clear hk) | (go_at_call 85; (with_reducible refine (ks_own_f K1.out HN1.out).mono ?_); rintro e w' ⟨rfl, hb⟩))
      exact ⟨rfl, rfl, hb⟩
  · have HN0 := Aside0.mk (Bool.eq_false_iff.2 hn)
    have HL1 := Aside0.mk HL0.out
    clear hn
    rcases ite_inv hr with ⟨hn, hq⟩ | ⟨hn, hq⟩
    · clear hr; have hr := hq; clear hq; obtain ⟨x1, m1, rfl⟩ := isB_cons hn
      try simp only [List.tail_cons] at hr
      have HN1 := Aside0.mk hn
      have HL2 := Aside0.mk (show m1.length ≤ 100000 by have := HL1.out; rw [List.length_cons] at this; omega)
      clear hn
      rcases ownS_inv hr with ⟨x2, m2, rfl, hn, hr⟩ | ⟨hn, rfl⟩
      · have HN2 := Aside0.mk hn
        have HL3 := Aside0.mk (show m2.length ≤ 100000 by have := HL2.out; rw [List.length_cons] at this; omega)
        clear hn
        have HL4 := Aside0.mk HL3.out
        rcases mustS_inv hr with ⟨x3, m3, rfl, hn, hr⟩ | ⟨hn, rfl⟩
        · have HN3 := Aside0.mk hn
          have HL5 := Aside0.mk (show m3.length ≤ 100000 by have := HL4.out; rw [List.length_cons] at this; omega)
          clear hn
          rcases andThen_inv hr with ⟨t1, m4, g1, h1, hr⟩ | ⟨m4, h1, rfl⟩
          · have H4 := Aside0.mk h1
            obtain rfl := Option.some.inj hr
            clear h1 hr
            go_enter Try.func108, Try.ntmps108
            go_upto_region 7 with (first | (go_at_call 107; (with_reducible refine (ks_mine K0.out HN0.out).mono ?_); rintro e w1 ⟨rfl, hk⟩; have K1 := Aside0.mk hk.k; clear hk) | (go_at_call 99; (with_reducible refine (ks_has_t (⟨#[108, 101, 116]⟩ : ByteArray) K1.out HN1.out).mono ?_); rintro e w2 ⟨rfl, hk⟩; have K2 := Aside0.mk hk.k; clear hk) | (go_at_call 85; (with_reducible refine (ks_own_t K2.out HN2.out).mono ?_); rintro e w3 ⟨rfl, hk⟩; have K3 := Aside0.mk hk.k; clear hk))
            obtain ⟨b1, hbb⟩ : ∃ b, b = w3.heap.size := ⟨_, rfl⟩
            obtain ⟨w4, hww⟩ : ∃ W : World, W = w3.alloc (.cells #[.int .u8 4, .int .i64 0, .int .i64 0, .string x2.f1] 43 (0, 0)) := ⟨_, rfl⟩
            have K4 := Aside0.mk (show Keeps w0 w w4 g _ size _ by rw [hww]; exact K3.out.alloc _)
            have X1 := Aside0.mk (show w4.heap[b1]? = some (.cells #[.int .u8 4, .int .i64 0, .int .i64 0, .string x2.f1] 43 (0, 0)) by rw [hww, hbb]; exact blk_new _ _)
            have Y1 := Aside0.mk (show g < b1 by rw [hbb]; exact K3.out.i.lt)
            rw [← hww, ← hbb]
            clear hww hbb
            go_upto_region 8 with (first | (go_at_call 84; (with_reducible refine (ks_must_t (⟨#[61]⟩ : ByteArray) K4.out HN3.out).mono ?_); rintro e w5 ⟨rfl, hk⟩; have K5 := Aside0.mk hk.k; replace X1 := Aside0.mk (hk.b.blk X1.out (by have := Y1.out; omega) (by simp)); clear hk))
            have HSK : Aside0 (∀ W' : World, KeepBut w5 W' g none → W'.cell? ⟨b1, 0, none⟩ = some (.int .u8 4) ∧ W'.cell? ⟨b1, 1, none⟩ = some (.int .i64 0) ∧ W'.cell? ⟨b1, 2, none⟩ = some (.int .i64 0) ∧ W'.cell? ⟨b1, 3, none⟩ = some (.string x2.f1)) := ⟨fun W' hk => by have h := hk.blk X1.out (by have := Y1.out; omega) (by simp); exact ⟨(blk_cell h 0).trans rfl, (blk_cell h 1).trans rfl, (blk_cell h 2).trans rfl, (blk_cell h 3).trans rfl⟩⟩
            have KD := Aside0.mk (Keeps.drew (Keeps.refl K5.out.i K5.out.b))
            have GD := Aside0.mk K5.out.i.lt
            go_region_held3 (fun W' => W'.cell? ⟨b1, 0, none⟩ = some (.int .u8 4) ∧ W'.cell? ⟨b1, 1, none⟩ = some (.int .i64 0) ∧ W'.cell? ⟨b1, 2, none⟩ = some (.int .i64 0) ∧ W'.cell? ⟨b1, 3, none⟩ = some (.string x2.f1)) (first | exact HSK.out _ (KeepBut.refl _ _ _) | exact HSK.out _ (keep_drew (KeepBut.refl _ _ _)) | exact HSK.out _ K90.out.k | exact HSK.out _ (keep_alloc K90.out.k _) | exact HSK.out _ (keep_drew (keep_alloc K90.out.k _)) | exact HSK.out _ K91.out.k) (first | (go_at_call 57; (with_reducible refine (ks_call (HIH.out k (Nat.lt_succ_self k)).expr_ H4.out HL5.out KD.out).mono ?_); rintro e w90 ⟨A90, c90, rfl, ht, hk⟩; have T90 := Aside0.mk (ht); have K90 := Aside0.mk hk.k; clear ht hk) | (go_at_call 88; refine (rd_of1 K90.out GD.out T90.out).mono ?_; rintro e w91 ⟨A91, c91, rfl, ht, hk⟩; have T91 := Aside0.mk ht; have K91 := Aside0.mk hk; clear ht hk))
            go_wp2
            go_ret
            exact PostR.ok_ (T91.out.lower K5.out.grows) (K5.out.then_ K91.out)
          · have H4 := Aside0.mk h1
            clear h1
            go_enter Try.func108, Try.ntmps108
            go_upto_region 7 with (first | (go_at_call 107; (with_reducible refine (ks_mine K0.out HN0.out).mono ?_); rintro e w1 ⟨rfl, hk⟩; have K1 := Aside0.mk hk.k; clear hk) | (go_at_call 99; (with_reducible refine (ks_has_t (⟨#[108, 101, 116]⟩ : ByteArray) K1.out HN1.out).mono ?_); rintro e w2 ⟨rfl, hk⟩; have K2 := Aside0.mk hk.k; clear hk) | (go_at_call 85; (with_reducible refine (ks_own_t K2.out HN2.out).mono ?_); rintro e w3 ⟨rfl, hk⟩; have K3 := Aside0.mk hk.k; clear hk))
            obtain ⟨b1, hbb⟩ : ∃ b, b = w3.heap.size := ⟨_, rfl⟩
            obtain ⟨w4, hww⟩ : ∃ W : World, W = w3.alloc (.cells #[.int .u8 4, .int .i64 0, .int .i64 0, .string x2.f1] 43 (0, 0)) := ⟨_, rfl⟩
            have K4 := Aside0.mk (show Keeps w0 w w4 g _ size _ by rw [hww]; exact K3.out.alloc _)
            have X1 := Aside0.mk (show w4.heap[b1]? = some (.cells #[.int .u8 4, .int .i64 0, .int .i64 0, .string x2.f1] 43 (0, 0)) by rw [hww, hbb]; exact blk_new _ _)
            have Y1 := Aside0.mk (show g < b1 by rw [hbb]; exact K3.out.i.lt)
            rw [← hww, ← hbb]
            clear hww hbb
            go_upto_region 8 with (first | (go_at_call 84; (with_reducible refine (ks_must_t (⟨#[61]⟩ : ByteArray) K4.out HN3.out).mono ?_); rintro e w5 ⟨rfl, hk⟩; have K5 := Aside0.mk hk.k; replace X1 := Aside0.mk (hk.b.blk X1.out (by have := Y1.out; omega) (by simp)); clear hk))
            have HSK : Aside0 (∀ W' : World, KeepBut w5 W' g none → W'.cell? ⟨b1, 0, none⟩ = some (.int .u8 4) ∧ W'.cell? ⟨b1, 1, none⟩ = some (.int .i64 0) ∧ W'.cell? ⟨b1, 2, none⟩ = some (.int .i64 0) ∧ W'.cell? ⟨b1, 3, none⟩ = some (.string x2.f1)) := ⟨fun W' hk => by have h := hk.blk X1.out (by have := Y1.out; omega) (by simp); exact ⟨(blk_cell h 0).trans rfl, (blk_cell h 1).trans rfl, (blk_cell h 2).trans rfl, (blk_cell h 3).trans rfl⟩⟩
            have KD := Aside0.mk (Keeps.drew (Keeps.refl K5.out.i K5.out.b))
            have GD := Aside0.mk K5.out.i.lt
            obtain ⟨hc0, hc1, hc2, hc3⟩ := HSK.out _ (KeepBut.refl _ _ _)
            go_region_held2 (fun W' => W'.cell? ⟨b1, 0, none⟩ = some (.int .u8 4) ∧ W'.cell? ⟨b1, 1, none⟩ = some (.int .i64 0) ∧ W'.cell? ⟨b1, 2, none⟩ = some (.int .i64 0) ∧ W'.cell? ⟨b1, 3, none⟩ = some (.string x2.f1)) (first | exact HX.out.elim | exact HSK.out _ (KeepBut.refl _ _ _) | exact HSK.out _ (keep_drew (KeepBut.refl _ _ _))) (first | (go_at_call 57; refine calls_dies (c := faultC m4 size) (R := fun w' => Below w0.heap.size w0 w') (ks_call_bad (HIH.out k (Nat.lt_succ_self k)).expr_ H4.out HL5.out KD.out) ?hp ?_; (case hp => intro w' h; exact ⟨rfl, rfl, h⟩); intro A90 n90 c90 w90 hF; have HX := Aside0.mk hF; have hx0 : w90.cell? ⟨b1, 0, none⟩ = some (.int .u8 4) := hF.elim; have hx1 : w90.cell? ⟨b1, 1, none⟩ = some (.int .i64 0) := hF.elim; have hx2 : w90.cell? ⟨b1, 2, none⟩ = some (.int .i64 0) := hF.elim; have hx3 : w90.cell? ⟨b1, 3, none⟩ = some (.string x2.f1) := hF.elim; clear hF) | (go_at_call 88; refine calls_never HX.out ?_; intro A91 n91 c91 w91))
            all_goals exact HX.out.elim
        · have HN3 := Aside0.mk hn
          clear hn
          go_enter Try.func108, Try.ntmps108
          go_upto_region 7 with (first | (go_at_call 107; (with_reducible refine (ks_mine K0.out HN0.out).mono ?_); rintro e w1 ⟨rfl, hk⟩; have K1 := Aside0.mk hk.k; clear hk) | (go_at_call 99; (with_reducible refine (ks_has_t (⟨#[108, 101, 116]⟩ : ByteArray) K1.out HN1.out).mono ?_); rintro e w2 ⟨rfl, hk⟩; have K2 := Aside0.mk hk.k; clear hk) | (go_at_call 85; (with_reducible refine (ks_own_t K2.out HN2.out).mono ?_); rintro e w3 ⟨rfl, hk⟩; have K3 := Aside0.mk hk.k; clear hk))
          obtain ⟨b1, hbb⟩ : ∃ b, b = w3.heap.size := ⟨_, rfl⟩
          obtain ⟨w4, hww⟩ : ∃ W : World, W = w3.alloc (.cells #[.int .u8 4, .int .i64 0, .int .i64 0, .string x2.f1] 43 (0, 0)) := ⟨_, rfl⟩
          have K4 := Aside0.mk (show Keeps w0 w w4 g _ size _ by rw [hww]; exact K3.out.alloc _)
          have X1 := Aside0.mk (show w4.heap[b1]? = some (.cells #[.int .u8 4, .int .i64 0, .int .i64 0, .string x2.f1] 43 (0, 0)) by rw [hww, hbb]; exact blk_new _ _)
          have Y1 := Aside0.mk (show g < b1 by rw [hbb]; exact K3.out.i.lt)
          rw [← hww, ← hbb]
          clear hww hbb
          go_wp2_with (first | (go_at_call 84; (with_reducible refine (ks_must_f (⟨#[61]⟩ : ByteArray) K4.out HN3.out).mono ?_); rintro e w' ⟨rfl, hb⟩))
          exact ⟨rfl, rfl, hb⟩
      · have HN2 := Aside0.mk hn
        clear hn
        go_enter Try.func108, Try.ntmps108
        go_wp2_with (first | (go_at_call 107; (with_reducible refine (ks_mine K0.out HN0.out).mono ?_); rintro e w1 ⟨rfl, hk⟩; have K1 := Aside0.mk hk.k; clear hk) | (go_at_call 99; (with_reducible refine (ks_has_t (⟨#[108, 101, 116]⟩ : ByteArray) K1.out HN1.out).mono ?_); rintro e w2 ⟨rfl, hk⟩; have K2 := Aside0.mk hk.k; clear hk) | (go_at_call 85; (with_reducible refine (ks_own_f K2.out HN2.out).mono ?_); rintro e w' ⟨rfl, hb⟩))
        exact ⟨rfl, rfl, hb⟩
    · clear hr; have hr := hq; clear hq; have HN1 := Aside0.mk (Bool.eq_false_iff.2 hn)
      clear hn
      rcases ite_inv hr with ⟨hn, hq⟩ | ⟨hn, hq⟩
      · clear hr; have hr := hq; clear hq; obtain ⟨x2, m2, rfl⟩ := isB_cons hn
        try simp only [List.tail_cons] at hr
        have HN2 := Aside0.mk hn
        have HL2 := Aside0.mk (show m2.length ≤ 100000 by have := HL1.out; rw [List.length_cons] at this; omega)
        clear hn
        rcases andThen_inv hr with ⟨t4, m3, g4, h1, hr⟩ | ⟨m3, h1, rfl⟩
        · have H3 := Aside0.mk h1
          have HL3 := Aside0.mk (Nat.le_trans ((all_sh k).1 _ _ _ _ h1).1.length_le HL2.out)
          clear h1
          rcases andThen_inv hr with ⟨t5, m4, g5, h1, hr⟩ | ⟨m4, h1, rfl⟩
          · have H4 := Aside0.mk h1
            have HL4 := Aside0.mk (Nat.le_trans ((all_sh k).2.2.2.2.2.2.2.2.1 _ _ _ h1).1.length_le HL3.out)
            clear h1
            have HL5 := Aside0.mk HL4.out
            rcases ite_inv hr with ⟨hn, hq⟩ | ⟨hn, hq⟩
            · clear hr; have hr := hq; clear hq; obtain ⟨x5, m5, rfl⟩ := isB_cons hn
              try simp only [List.tail_cons] at hr
              have HN5 := Aside0.mk hn
              have HL6 := Aside0.mk (show m5.length ≤ 100000 by have := HL5.out; rw [List.length_cons] at this; omega)
              clear hn
              rcases andThen_inv hr with ⟨t7, m6, g7, h1, hr⟩ | ⟨m6, h1, rfl⟩
              · have H6 := Aside0.mk h1
                have HL7 := Aside0.mk (Nat.le_trans ((all_sh k).2.2.2.2.2.2.2.2.1 _ _ _ h1).1.length_le HL6.out)
                clear h1
                obtain rfl := Option.some.inj hr
                clear hr
                go_enter Try.func108, Try.ntmps108
                go_wp2_with (first | (go_at_call 107; (with_reducible refine (ks_mine K0.out HN0.out).mono ?_); rintro e w1 ⟨rfl, hk⟩; have K1 := Aside0.mk hk.k; clear hk) | (go_at_call 99; (with_reducible refine (ks_has_f (⟨#[108, 101, 116]⟩ : ByteArray) K1.out HN1.out).mono ?_); rintro e w' ⟨rfl, rfl⟩) | (go_at_call 99; (with_reducible refine (ks_has_t (⟨#[105, 102]⟩ : ByteArray) K1.out HN2.out).mono ?_); rintro e w2 ⟨rfl, hk⟩; have K2 := Aside0.mk hk.k; clear hk) | (go_at_call 57; (with_reducible refine (ks_call (HIH.out k (Nat.lt_succ_self k)).expr_ H3.out HL2.out K2.out).mono ?_); rintro e w3 ⟨A4, c4, rfl, ht, hk⟩; have K3 := Aside0.mk hk.k; have T4 := Aside0.mk ht; clear ht hk) | (go_at_call 89; (with_reducible refine (ks_call (HIH.out k (Nat.lt_succ_self k)).block_ H4.out HL3.out (Keeps.refl K3.out.i K3.out.b)).mono ?_); rintro e w4 ⟨A5, c5, rfl, ht, hk⟩; have R4 := Aside0.mk (T4.out.call GL.out hk.b); have K4 := Aside0.mk (K3.out.then_ hk.k); replace T4 := Aside0.mk (T4.out.keep GL.out hk.b); have U5 := Aside0.mk ht; have T5 := Aside0.mk (ht.lower K3.out.grows); have G5 := Aside0.mk hk.b.1; clear ht hk) | ((with_reducible refine gate_dst (N := 41) rfl ?_); refine trees_lit2 (w := w) (B := w3.heap.size) K3.out.grows G5.out ?hg (N := 41) ?hd ?hr R4.out U5.out.1 T4.out.2 T5.out.2 ?_; (case hd => rfl); (case hg => rfl); (case hr => first | (go_simp; done) | (go_simp; rfl)); intro A74 c74 w5 hs hb; have S1 := Aside0.mk hs; have K5 := Aside0.mk (K4.out.own GL.out hb); clear hs hb) | (go_at_call 99; (with_reducible refine (ks_has_t (⟨#[101, 108, 115, 101]⟩ : ByteArray) K5.out HN5.out).mono ?_); rintro e w6 ⟨rfl, hk⟩; have K6 := Aside0.mk hk.k; replace S1 := Aside0.mk (S1.out.keep GL.out hk.b); clear hk) | (go_at_call 89; (with_reducible refine (ks_call (HIH.out k (Nat.lt_succ_self k)).block_ H6.out HL6.out (Keeps.refl K6.out.i K6.out.b)).mono ?_); rintro e w7 ⟨A7, c7, rfl, ht, hk⟩; have Q1 := Aside0.mk (S1.out.call GL.out hk.b); have K7 := Aside0.mk (K6.out.then_ hk.k); replace S1 := Aside0.mk (S1.out.keep GL.out hk.b); have U7 := Aside0.mk ht; have T7 := Aside0.mk (ht.lower K6.out.grows); have G7 := Aside0.mk hk.b.1; clear ht hk) | ((with_reducible refine gate_builtin (b := .append) (xs := #[.tmp 44, .tmp 47]) rfl ?_); at_builtin; refine trees_append (w := w) (B := w6.heap.size) K6.out.grows G7.out rfl (.tmp 44) (.tmp 47) rfl rfl rfl Q1.out (by simp) U7.out.1 ?_; intro A77 c77 w8 hs hb; have S2 := Aside0.mk (show Sr w w8 _ ([t4, t5] ++ [t7]) from ⟨hs, S1.out.snoc T7.out.2⟩); have K8 := Aside0.mk (K7.out.own GL.out hb); clear hs hb) | (go_at_call 88; refine (rd_of_row (ts := [t4, t5] ++ [t7]) (A := A77) (c := c77) K8.out GL.out S2.out (by simp)).mono ?_; rintro e w9 ⟨A90, c90, rfl, ht, hk⟩; have T90 := Aside0.mk ht; have K9 := Aside0.mk hk; clear ht hk))
                go_ret
                exact PostR.ok_ T90.out K9.out
              · have H6 := Aside0.mk h1
                clear h1
                go_enter Try.func108, Try.ntmps108
                go_wp2_with (first | (go_at_call 107; (with_reducible refine (ks_mine K0.out HN0.out).mono ?_); rintro e w1 ⟨rfl, hk⟩; have K1 := Aside0.mk hk.k; clear hk) | (go_at_call 99; (with_reducible refine (ks_has_f (⟨#[108, 101, 116]⟩ : ByteArray) K1.out HN1.out).mono ?_); rintro e w' ⟨rfl, rfl⟩) | (go_at_call 99; (with_reducible refine (ks_has_t (⟨#[105, 102]⟩ : ByteArray) K1.out HN2.out).mono ?_); rintro e w2 ⟨rfl, hk⟩; have K2 := Aside0.mk hk.k; clear hk) | (go_at_call 57; (with_reducible refine (ks_call (HIH.out k (Nat.lt_succ_self k)).expr_ H3.out HL2.out K2.out).mono ?_); rintro e w3 ⟨A4, c4, rfl, ht, hk⟩; have K3 := Aside0.mk hk.k; have T4 := Aside0.mk ht; clear ht hk) | (go_at_call 89; (with_reducible refine (ks_call (HIH.out k (Nat.lt_succ_self k)).block_ H4.out HL3.out (Keeps.refl K3.out.i K3.out.b)).mono ?_); rintro e w4 ⟨A5, c5, rfl, ht, hk⟩; have R4 := Aside0.mk (T4.out.call GL.out hk.b); have K4 := Aside0.mk (K3.out.then_ hk.k); replace T4 := Aside0.mk (T4.out.keep GL.out hk.b); have U5 := Aside0.mk ht; have T5 := Aside0.mk (ht.lower K3.out.grows); have G5 := Aside0.mk hk.b.1; clear ht hk) | ((with_reducible refine gate_dst (N := 41) rfl ?_); refine trees_lit2 (w := w) (B := w3.heap.size) K3.out.grows G5.out ?hg (N := 41) ?hd ?hr R4.out U5.out.1 T4.out.2 T5.out.2 ?_; (case hd => rfl); (case hg => rfl); (case hr => first | (go_simp; done) | (go_simp; rfl)); intro A74 c74 w5 hs hb; have S1 := Aside0.mk hs; have K5 := Aside0.mk (K4.out.own GL.out hb); clear hs hb) | (go_at_call 99; (with_reducible refine (ks_has_t (⟨#[101, 108, 115, 101]⟩ : ByteArray) K5.out HN5.out).mono ?_); rintro e w6 ⟨rfl, hk⟩; have K6 := Aside0.mk hk.k; replace S1 := Aside0.mk (S1.out.keep GL.out hk.b); clear hk) | (go_at_call 89; (with_reducible refine (ks_call_bad (HIH.out k (Nat.lt_succ_self k)).block_ H6.out HL6.out K6.out).mono ?_); rintro e w' ⟨rfl, hb⟩))
                exact ⟨rfl, rfl, hb⟩
            · clear hr; have hr := hq; clear hq; have HN5 := Aside0.mk (Bool.eq_false_iff.2 hn)
              clear hn
              obtain rfl := Option.some.inj hr
              clear hr
              go_enter Try.func108, Try.ntmps108
              go_wp2_with (first | (go_at_call 107; (with_reducible refine (ks_mine K0.out HN0.out).mono ?_); rintro e w1 ⟨rfl, hk⟩; have K1 := Aside0.mk hk.k; clear hk) | (go_at_call 99; (with_reducible refine (ks_has_f (⟨#[108, 101, 116]⟩ : ByteArray) K1.out HN1.out).mono ?_); rintro e w' ⟨rfl, rfl⟩) | (go_at_call 99; (with_reducible refine (ks_has_t (⟨#[105, 102]⟩ : ByteArray) K1.out HN2.out).mono ?_); rintro e w2 ⟨rfl, hk⟩; have K2 := Aside0.mk hk.k; clear hk) | (go_at_call 57; (with_reducible refine (ks_call (HIH.out k (Nat.lt_succ_self k)).expr_ H3.out HL2.out K2.out).mono ?_); rintro e w3 ⟨A4, c4, rfl, ht, hk⟩; have K3 := Aside0.mk hk.k; have T4 := Aside0.mk ht; clear ht hk) | (go_at_call 89; (with_reducible refine (ks_call (HIH.out k (Nat.lt_succ_self k)).block_ H4.out HL3.out (Keeps.refl K3.out.i K3.out.b)).mono ?_); rintro e w4 ⟨A5, c5, rfl, ht, hk⟩; have R4 := Aside0.mk (T4.out.call GL.out hk.b); have K4 := Aside0.mk (K3.out.then_ hk.k); replace T4 := Aside0.mk (T4.out.keep GL.out hk.b); have U5 := Aside0.mk ht; have T5 := Aside0.mk (ht.lower K3.out.grows); have G5 := Aside0.mk hk.b.1; clear ht hk) | ((with_reducible refine gate_dst (N := 41) rfl ?_); refine trees_lit2 (w := w) (B := w3.heap.size) K3.out.grows G5.out ?hg (N := 41) ?hd ?hr R4.out U5.out.1 T4.out.2 T5.out.2 ?_; (case hd => rfl); (case hg => rfl); (case hr => first | (go_simp; done) | (go_simp; rfl)); intro A74 c74 w5 hs hb; have S1 := Aside0.mk hs; have K5 := Aside0.mk (K4.out.own GL.out hb); clear hs hb) | (go_at_call 99; (with_reducible refine (ks_has_f (⟨#[101, 108, 115, 101]⟩ : ByteArray) K5.out HN5.out).mono ?_); rintro e w' ⟨rfl, rfl⟩) | (go_at_call 88; refine (rd_of_row (ts := [t4, t5]) (A := A74) (c := c74) K5.out GL.out S1.out (by simp)).mono ?_; rintro e w6 ⟨A90, c90, rfl, ht, hk⟩; have T90 := Aside0.mk ht; have K6 := Aside0.mk hk; clear ht hk))
              go_ret
              exact PostR.ok_ T90.out K6.out
          · have H4 := Aside0.mk h1
            clear h1
            go_enter Try.func108, Try.ntmps108
            go_wp2_with (first | (go_at_call 107; (with_reducible refine (ks_mine K0.out HN0.out).mono ?_); rintro e w1 ⟨rfl, hk⟩; have K1 := Aside0.mk hk.k; clear hk) | (go_at_call 99; (with_reducible refine (ks_has_f (⟨#[108, 101, 116]⟩ : ByteArray) K1.out HN1.out).mono ?_); rintro e w' ⟨rfl, rfl⟩) | (go_at_call 99; (with_reducible refine (ks_has_t (⟨#[105, 102]⟩ : ByteArray) K1.out HN2.out).mono ?_); rintro e w2 ⟨rfl, hk⟩; have K2 := Aside0.mk hk.k; clear hk) | (go_at_call 57; (with_reducible refine (ks_call (HIH.out k (Nat.lt_succ_self k)).expr_ H3.out HL2.out K2.out).mono ?_); rintro e w3 ⟨A4, c4, rfl, ht, hk⟩; have K3 := Aside0.mk hk.k; have T4 := Aside0.mk ht; clear ht hk) | (go_at_call 89; (with_reducible refine (ks_call_bad (HIH.out k (Nat.lt_succ_self k)).block_ H4.out HL3.out K3.out).mono ?_); rintro e w' ⟨rfl, hb⟩))
            exact ⟨rfl, rfl, hb⟩
        · have H3 := Aside0.mk h1
          clear h1
          go_enter Try.func108, Try.ntmps108
          go_wp2_with (first | (go_at_call 107; (with_reducible refine (ks_mine K0.out HN0.out).mono ?_); rintro e w1 ⟨rfl, hk⟩; have K1 := Aside0.mk hk.k; clear hk) | (go_at_call 99; (with_reducible refine (ks_has_f (⟨#[108, 101, 116]⟩ : ByteArray) K1.out HN1.out).mono ?_); rintro e w' ⟨rfl, rfl⟩) | (go_at_call 99; (with_reducible refine (ks_has_t (⟨#[105, 102]⟩ : ByteArray) K1.out HN2.out).mono ?_); rintro e w2 ⟨rfl, hk⟩; have K2 := Aside0.mk hk.k; clear hk) | (go_at_call 57; (with_reducible refine (ks_call_bad (HIH.out k (Nat.lt_succ_self k)).expr_ H3.out HL2.out K2.out).mono ?_); rintro e w' ⟨rfl, hb⟩))
          exact ⟨rfl, rfl, hb⟩
      · clear hr; have hr := hq; clear hq; have HN2 := Aside0.mk (Bool.eq_false_iff.2 hn)
        clear hn
        rcases ite_inv hr with ⟨hn, hq⟩ | ⟨hn, hq⟩
        · clear hr; have hr := hq; clear hq; obtain ⟨x3, m3, rfl⟩ := isB_cons hn
          try simp only [List.tail_cons] at hr
          have HN3 := Aside0.mk hn
          have HL2 := Aside0.mk (show m3.length ≤ 100000 by have := HL1.out; rw [List.length_cons] at this; omega)
          clear hn
          rcases andThen_inv hr with ⟨t5, m4, g5, h1, hr⟩ | ⟨m4, h1, rfl⟩
          · have H4 := Aside0.mk h1
            have HL3 := Aside0.mk (Nat.le_trans ((all_sh k).1 _ _ _ _ h1).1.length_le HL2.out)
            clear h1
            rcases andThen_inv hr with ⟨t6, m5, g6, h1, hr⟩ | ⟨m5, h1, rfl⟩
            · have H5 := Aside0.mk h1
              have HL4 := Aside0.mk (Nat.le_trans ((all_sh k).2.2.2.2.2.2.2.2.1 _ _ _ h1).1.length_le HL3.out)
              clear h1
              obtain rfl := Option.some.inj hr
              clear hr
              go_enter Try.func108, Try.ntmps108
              go_wp2_with (first | (go_at_call 107; (with_reducible refine (ks_mine K0.out HN0.out).mono ?_); rintro e w1 ⟨rfl, hk⟩; have K1 := Aside0.mk hk.k; clear hk) | (go_at_call 99; (with_reducible refine (ks_has_f (⟨#[108, 101, 116]⟩ : ByteArray) K1.out HN1.out).mono ?_); rintro e w' ⟨rfl, rfl⟩) | (go_at_call 99; (with_reducible refine (ks_has_f (⟨#[105, 102]⟩ : ByteArray) K1.out HN2.out).mono ?_); rintro e w' ⟨rfl, rfl⟩) | (go_at_call 99; (with_reducible refine (ks_has_t (⟨#[119, 104, 105, 108, 101]⟩ : ByteArray) K1.out HN3.out).mono ?_); rintro e w2 ⟨rfl, hk⟩; have K2 := Aside0.mk hk.k; clear hk) | (go_at_call 57; (with_reducible refine (ks_call (HIH.out k (Nat.lt_succ_self k)).expr_ H4.out HL2.out K2.out).mono ?_); rintro e w3 ⟨A5, c5, rfl, ht, hk⟩; have K3 := Aside0.mk hk.k; have T5 := Aside0.mk ht; clear ht hk) | (go_at_call 89; (with_reducible refine (ks_call (HIH.out k (Nat.lt_succ_self k)).block_ H5.out HL3.out K3.out).mono ?_); rintro e w4 ⟨A6, c6, rfl, ht, hk⟩; have K4 := Aside0.mk hk.k; replace T5 := Aside0.mk (T5.out.keep GL.out hk.b); have T6 := Aside0.mk ht; clear ht hk) | (go_at_call 88; refine (rd_of2 K4.out GL.out T5.out T6.out).mono ?_; rintro e w5 ⟨A90, c90, rfl, ht, hk⟩; have T90 := Aside0.mk ht; have K5 := Aside0.mk hk; clear ht hk))
              go_ret
              exact PostR.ok_ T90.out K5.out
            · have H5 := Aside0.mk h1
              clear h1
              go_enter Try.func108, Try.ntmps108
              go_wp2_with (first | (go_at_call 107; (with_reducible refine (ks_mine K0.out HN0.out).mono ?_); rintro e w1 ⟨rfl, hk⟩; have K1 := Aside0.mk hk.k; clear hk) | (go_at_call 99; (with_reducible refine (ks_has_f (⟨#[108, 101, 116]⟩ : ByteArray) K1.out HN1.out).mono ?_); rintro e w' ⟨rfl, rfl⟩) | (go_at_call 99; (with_reducible refine (ks_has_f (⟨#[105, 102]⟩ : ByteArray) K1.out HN2.out).mono ?_); rintro e w' ⟨rfl, rfl⟩) | (go_at_call 99; (with_reducible refine (ks_has_t (⟨#[119, 104, 105, 108, 101]⟩ : ByteArray) K1.out HN3.out).mono ?_); rintro e w2 ⟨rfl, hk⟩; have K2 := Aside0.mk hk.k; clear hk) | (go_at_call 57; (with_reducible refine (ks_call (HIH.out k (Nat.lt_succ_self k)).expr_ H4.out HL2.out K2.out).mono ?_); rintro e w3 ⟨A5, c5, rfl, ht, hk⟩; have K3 := Aside0.mk hk.k; have T5 := Aside0.mk ht; clear ht hk) | (go_at_call 89; (with_reducible refine (ks_call_bad (HIH.out k (Nat.lt_succ_self k)).block_ H5.out HL3.out K3.out).mono ?_); rintro e w' ⟨rfl, hb⟩))
              exact ⟨rfl, rfl, hb⟩
          · have H4 := Aside0.mk h1
            clear h1
            go_enter Try.func108, Try.ntmps108
            go_wp2_with (first | (go_at_call 107; (with_reducible refine (ks_mine K0.out HN0.out).mono ?_); rintro e w1 ⟨rfl, hk⟩; have K1 := Aside0.mk hk.k; clear hk) | (go_at_call 99; (with_reducible refine (ks_has_f (⟨#[108, 101, 116]⟩ : ByteArray) K1.out HN1.out).mono ?_); rintro e w' ⟨rfl, rfl⟩) | (go_at_call 99; (with_reducible refine (ks_has_f (⟨#[105, 102]⟩ : ByteArray) K1.out HN2.out).mono ?_); rintro e w' ⟨rfl, rfl⟩) | (go_at_call 99; (with_reducible refine (ks_has_t (⟨#[119, 104, 105, 108, 101]⟩ : ByteArray) K1.out HN3.out).mono ?_); rintro e w2 ⟨rfl, hk⟩; have K2 := Aside0.mk hk.k; clear hk) | (go_at_call 57; (with_reducible refine (ks_call_bad (HIH.out k (Nat.lt_succ_self k)).expr_ H4.out HL2.out K2.out).mono ?_); rintro e w' ⟨rfl, hb⟩))
            exact ⟨rfl, rfl, hb⟩
        · clear hr; have hr := hq; clear hq; have HN3 := Aside0.mk (Bool.eq_false_iff.2 hn)
          clear hn
          rcases ite_inv hr with ⟨hn, hq⟩ | ⟨hn, hq⟩
          · clear hr; have hr := hq; clear hq; obtain ⟨x4, m4, rfl⟩ := isB_cons hn
            try simp only [List.tail_cons] at hr
            have HN4 := Aside0.mk hn
            have HL2 := Aside0.mk (show m4.length ≤ 100000 by have := HL1.out; rw [List.length_cons] at this; omega)
            clear hn
            rcases andThen_inv hr with ⟨t6, m5, g6, h1, hr⟩ | ⟨m5, h1, rfl⟩
            · have H5 := Aside0.mk h1
              have HL3 := Aside0.mk (Nat.le_trans ((all_sh k).1 _ _ _ _ h1).1.length_le HL2.out)
              clear h1
              obtain rfl := Option.some.inj hr
              clear hr
              go_enter Try.func108, Try.ntmps108
              go_wp2_with (first | (go_at_call 107; (with_reducible refine (ks_mine K0.out HN0.out).mono ?_); rintro e w1 ⟨rfl, hk⟩; have K1 := Aside0.mk hk.k; clear hk) | (go_at_call 99; (with_reducible refine (ks_has_f (⟨#[108, 101, 116]⟩ : ByteArray) K1.out HN1.out).mono ?_); rintro e w' ⟨rfl, rfl⟩) | (go_at_call 99; (with_reducible refine (ks_has_f (⟨#[105, 102]⟩ : ByteArray) K1.out HN2.out).mono ?_); rintro e w' ⟨rfl, rfl⟩) | (go_at_call 99; (with_reducible refine (ks_has_f (⟨#[119, 104, 105, 108, 101]⟩ : ByteArray) K1.out HN3.out).mono ?_); rintro e w' ⟨rfl, rfl⟩) | (go_at_call 99; (with_reducible refine (ks_has_t (⟨#[114, 101, 116, 117, 114, 110]⟩ : ByteArray) K1.out HN4.out).mono ?_); rintro e w2 ⟨rfl, hk⟩; have K2 := Aside0.mk hk.k; clear hk) | (go_at_call 57; (with_reducible refine (ks_call (HIH.out k (Nat.lt_succ_self k)).expr_ H5.out HL2.out K2.out).mono ?_); rintro e w3 ⟨A6, c6, rfl, ht, hk⟩; have K3 := Aside0.mk hk.k; have T6 := Aside0.mk ht; clear ht hk) | (go_at_call 88; refine (rd_of1 K3.out GL.out T6.out).mono ?_; rintro e w4 ⟨A90, c90, rfl, ht, hk⟩; have T90 := Aside0.mk ht; have K4 := Aside0.mk hk; clear ht hk))
              go_ret
              exact PostR.ok_ T90.out K4.out
            · have H5 := Aside0.mk h1
              clear h1
              go_enter Try.func108, Try.ntmps108
              go_wp2_with (first | (go_at_call 107; (with_reducible refine (ks_mine K0.out HN0.out).mono ?_); rintro e w1 ⟨rfl, hk⟩; have K1 := Aside0.mk hk.k; clear hk) | (go_at_call 99; (with_reducible refine (ks_has_f (⟨#[108, 101, 116]⟩ : ByteArray) K1.out HN1.out).mono ?_); rintro e w' ⟨rfl, rfl⟩) | (go_at_call 99; (with_reducible refine (ks_has_f (⟨#[105, 102]⟩ : ByteArray) K1.out HN2.out).mono ?_); rintro e w' ⟨rfl, rfl⟩) | (go_at_call 99; (with_reducible refine (ks_has_f (⟨#[119, 104, 105, 108, 101]⟩ : ByteArray) K1.out HN3.out).mono ?_); rintro e w' ⟨rfl, rfl⟩) | (go_at_call 99; (with_reducible refine (ks_has_t (⟨#[114, 101, 116, 117, 114, 110]⟩ : ByteArray) K1.out HN4.out).mono ?_); rintro e w2 ⟨rfl, hk⟩; have K2 := Aside0.mk hk.k; clear hk) | (go_at_call 57; (with_reducible refine (ks_call_bad (HIH.out k (Nat.lt_succ_self k)).expr_ H5.out HL2.out K2.out).mono ?_); rintro e w' ⟨rfl, hb⟩))
              exact ⟨rfl, rfl, hb⟩
          · clear hr; have hr := hq; clear hq; have HN4 := Aside0.mk (Bool.eq_false_iff.2 hn)
            clear hn
            rcases ite_inv hr with ⟨hn, hq⟩ | ⟨hn, hq⟩
            · clear hr; have hr := hq; clear hq; obtain ⟨x5, m5, rfl⟩ := isB_cons hn
              try simp only [List.tail_cons] at hr
              have HN5 := Aside0.mk hn
              have HL2 := Aside0.mk (show m5.length ≤ 100000 by have := HL1.out; rw [List.length_cons] at this; omega)
              clear hn
              rcases andThen_inv hr with ⟨t7, m6, g7, h1, hr⟩ | ⟨m6, h1, rfl⟩
              · have H6 := Aside0.mk h1
                have HL3 := Aside0.mk (Nat.le_trans ((all_sh k).1 _ _ _ _ h1).1.length_le HL2.out)
                clear h1
                obtain rfl := Option.some.inj hr
                clear hr
                go_enter Try.func108, Try.ntmps108
                go_wp2_with (first | (go_at_call 107; (with_reducible refine (ks_mine K0.out HN0.out).mono ?_); rintro e w1 ⟨rfl, hk⟩; have K1 := Aside0.mk hk.k; clear hk) | (go_at_call 99; (with_reducible refine (ks_has_f (⟨#[108, 101, 116]⟩ : ByteArray) K1.out HN1.out).mono ?_); rintro e w' ⟨rfl, rfl⟩) | (go_at_call 99; (with_reducible refine (ks_has_f (⟨#[105, 102]⟩ : ByteArray) K1.out HN2.out).mono ?_); rintro e w' ⟨rfl, rfl⟩) | (go_at_call 99; (with_reducible refine (ks_has_f (⟨#[119, 104, 105, 108, 101]⟩ : ByteArray) K1.out HN3.out).mono ?_); rintro e w' ⟨rfl, rfl⟩) | (go_at_call 99; (with_reducible refine (ks_has_f (⟨#[114, 101, 116, 117, 114, 110]⟩ : ByteArray) K1.out HN4.out).mono ?_); rintro e w' ⟨rfl, rfl⟩) | (go_at_call 99; (with_reducible refine (ks_has_t (⟨#[102, 97, 105, 108]⟩ : ByteArray) K1.out HN5.out).mono ?_); rintro e w2 ⟨rfl, hk⟩; have K2 := Aside0.mk hk.k; clear hk) | (go_at_call 57; (with_reducible refine (ks_call (HIH.out k (Nat.lt_succ_self k)).expr_ H6.out HL2.out K2.out).mono ?_); rintro e w3 ⟨A7, c7, rfl, ht, hk⟩; have K3 := Aside0.mk hk.k; have T7 := Aside0.mk ht; clear ht hk) | (go_at_call 88; refine (rd_of1 K3.out GL.out T7.out).mono ?_; rintro e w4 ⟨A90, c90, rfl, ht, hk⟩; have T90 := Aside0.mk ht; have K4 := Aside0.mk hk; clear ht hk))
                go_ret
                exact PostR.ok_ T90.out K4.out
              · have H6 := Aside0.mk h1
                clear h1
                go_enter Try.func108, Try.ntmps108
                go_wp2_with (first | (go_at_call 107; (with_reducible refine (ks_mine K0.out HN0.out).mono ?_); rintro e w1 ⟨rfl, hk⟩; have K1 := Aside0.mk hk.k; clear hk) | (go_at_call 99; (with_reducible refine (ks_has_f (⟨#[108, 101, 116]⟩ : ByteArray) K1.out HN1.out).mono ?_); rintro e w' ⟨rfl, rfl⟩) | (go_at_call 99; (with_reducible refine (ks_has_f (⟨#[105, 102]⟩ : ByteArray) K1.out HN2.out).mono ?_); rintro e w' ⟨rfl, rfl⟩) | (go_at_call 99; (with_reducible refine (ks_has_f (⟨#[119, 104, 105, 108, 101]⟩ : ByteArray) K1.out HN3.out).mono ?_); rintro e w' ⟨rfl, rfl⟩) | (go_at_call 99; (with_reducible refine (ks_has_f (⟨#[114, 101, 116, 117, 114, 110]⟩ : ByteArray) K1.out HN4.out).mono ?_); rintro e w' ⟨rfl, rfl⟩) | (go_at_call 99; (with_reducible refine (ks_has_t (⟨#[102, 97, 105, 108]⟩ : ByteArray) K1.out HN5.out).mono ?_); rintro e w2 ⟨rfl, hk⟩; have K2 := Aside0.mk hk.k; clear hk) | (go_at_call 57; (with_reducible refine (ks_call_bad (HIH.out k (Nat.lt_succ_self k)).expr_ H6.out HL2.out K2.out).mono ?_); rintro e w' ⟨rfl, hb⟩))
                exact ⟨rfl, rfl, hb⟩
            · clear hr; have hr := hq; clear hq; have HN5 := Aside0.mk (Bool.eq_false_iff.2 hn)
              clear hn
              rcases ite_inv hr with ⟨hn, hq⟩ | ⟨hn, hq⟩
              · clear hr; have hr := hq; clear hq; obtain ⟨x6, m6, rfl⟩ := isB_cons hn
                try simp only [List.tail_cons] at hr
                have HN6 := Aside0.mk hn
                have HL2 := Aside0.mk (show m6.length ≤ 100000 by have := HL1.out; rw [List.length_cons] at this; omega)
                clear hn
                rcases andThen_inv hr with ⟨t8, m7, g8, h1, hr⟩ | ⟨m7, h1, rfl⟩
                · have H7 := Aside0.mk h1
                  have HL3 := Aside0.mk (Nat.le_trans ((all_sh k).1 _ _ _ _ h1).1.length_le HL2.out)
                  clear h1
                  obtain rfl := Option.some.inj hr
                  clear hr
                  go_enter Try.func108, Try.ntmps108
                  go_wp2_with (first | (go_at_call 107; (with_reducible refine (ks_mine K0.out HN0.out).mono ?_); rintro e w1 ⟨rfl, hk⟩; have K1 := Aside0.mk hk.k; clear hk) | (go_at_call 99; (with_reducible refine (ks_has_f (⟨#[108, 101, 116]⟩ : ByteArray) K1.out HN1.out).mono ?_); rintro e w' ⟨rfl, rfl⟩) | (go_at_call 99; (with_reducible refine (ks_has_f (⟨#[105, 102]⟩ : ByteArray) K1.out HN2.out).mono ?_); rintro e w' ⟨rfl, rfl⟩) | (go_at_call 99; (with_reducible refine (ks_has_f (⟨#[119, 104, 105, 108, 101]⟩ : ByteArray) K1.out HN3.out).mono ?_); rintro e w' ⟨rfl, rfl⟩) | (go_at_call 99; (with_reducible refine (ks_has_f (⟨#[114, 101, 116, 117, 114, 110]⟩ : ByteArray) K1.out HN4.out).mono ?_); rintro e w' ⟨rfl, rfl⟩) | (go_at_call 99; (with_reducible refine (ks_has_f (⟨#[102, 97, 105, 108]⟩ : ByteArray) K1.out HN5.out).mono ?_); rintro e w' ⟨rfl, rfl⟩) | (go_at_call 99; (with_reducible refine (ks_has_t (⟨#[115, 108, 101, 101, 112]⟩ : ByteArray) K1.out HN6.out).mono ?_); rintro e w2 ⟨rfl, hk⟩; have K2 := Aside0.mk hk.k; clear hk) | (go_at_call 57; (with_reducible refine (ks_call (HIH.out k (Nat.lt_succ_self k)).expr_ H7.out HL2.out K2.out).mono ?_); rintro e w3 ⟨A8, c8, rfl, ht, hk⟩; have K3 := Aside0.mk hk.k; have T8 := Aside0.mk ht; clear ht hk) | (go_at_call 88; refine (rd_of1 K3.out GL.out T8.out).mono ?_; rintro e w4 ⟨A90, c90, rfl, ht, hk⟩; have T90 := Aside0.mk ht; have K4 := Aside0.mk hk; clear ht hk))
                  go_ret
                  exact PostR.ok_ T90.out K4.out
                · have H7 := Aside0.mk h1
                  clear h1
                  go_enter Try.func108, Try.ntmps108
                  go_wp2_with (first | (go_at_call 107; (with_reducible refine (ks_mine K0.out HN0.out).mono ?_); rintro e w1 ⟨rfl, hk⟩; have K1 := Aside0.mk hk.k; clear hk) | (go_at_call 99; (with_reducible refine (ks_has_f (⟨#[108, 101, 116]⟩ : ByteArray) K1.out HN1.out).mono ?_); rintro e w' ⟨rfl, rfl⟩) | (go_at_call 99; (with_reducible refine (ks_has_f (⟨#[105, 102]⟩ : ByteArray) K1.out HN2.out).mono ?_); rintro e w' ⟨rfl, rfl⟩) | (go_at_call 99; (with_reducible refine (ks_has_f (⟨#[119, 104, 105, 108, 101]⟩ : ByteArray) K1.out HN3.out).mono ?_); rintro e w' ⟨rfl, rfl⟩) | (go_at_call 99; (with_reducible refine (ks_has_f (⟨#[114, 101, 116, 117, 114, 110]⟩ : ByteArray) K1.out HN4.out).mono ?_); rintro e w' ⟨rfl, rfl⟩) | (go_at_call 99; (with_reducible refine (ks_has_f (⟨#[102, 97, 105, 108]⟩ : ByteArray) K1.out HN5.out).mono ?_); rintro e w' ⟨rfl, rfl⟩) | (go_at_call 99; (with_reducible refine (ks_has_t (⟨#[115, 108, 101, 101, 112]⟩ : ByteArray) K1.out HN6.out).mono ?_); rintro e w2 ⟨rfl, hk⟩; have K2 := Aside0.mk hk.k; clear hk) | (go_at_call 57; (with_reducible refine (ks_call_bad (HIH.out k (Nat.lt_succ_self k)).expr_ H7.out HL2.out K2.out).mono ?_); rintro e w' ⟨rfl, hb⟩))
                  exact ⟨rfl, rfl, hb⟩
              · clear hr; have hr := hq; clear hq; have HN6 := Aside0.mk (Bool.eq_false_iff.2 hn)
                clear hn
                rcases ite_inv hr with ⟨hn, hq⟩ | ⟨hn, hq⟩
                · clear hr; have hr := hq; clear hq; obtain ⟨x7, m7, rfl⟩ := isB_cons hn
                  try simp only [List.tail_cons] at hr
                  have HN7 := Aside0.mk hn
                  have HL2 := Aside0.mk (show m7.length ≤ 100000 by have := HL1.out; rw [List.length_cons] at this; omega)
                  clear hn
                  rcases andThen_inv hr with ⟨t9, m8, g9, h1, hr⟩ | ⟨m8, h1, rfl⟩
                  · have H8 := Aside0.mk h1
                    have HL3 := Aside0.mk (Nat.le_trans ((all_sh k).1 _ _ _ _ h1).1.length_le HL2.out)
                    clear h1
                    obtain rfl := Option.some.inj hr
                    clear hr
                    go_enter Try.func108, Try.ntmps108
                    go_wp2_with (first | (go_at_call 107; (with_reducible refine (ks_mine K0.out HN0.out).mono ?_); rintro e w1 ⟨rfl, hk⟩; have K1 := Aside0.mk hk.k; clear hk) | (go_at_call 99; (with_reducible refine (ks_has_f (⟨#[108, 101, 116]⟩ : ByteArray) K1.out HN1.out).mono ?_); rintro e w' ⟨rfl, rfl⟩) | (go_at_call 99; (with_reducible refine (ks_has_f (⟨#[105, 102]⟩ : ByteArray) K1.out HN2.out).mono ?_); rintro e w' ⟨rfl, rfl⟩) | (go_at_call 99; (with_reducible refine (ks_has_f (⟨#[119, 104, 105, 108, 101]⟩ : ByteArray) K1.out HN3.out).mono ?_); rintro e w' ⟨rfl, rfl⟩) | (go_at_call 99; (with_reducible refine (ks_has_f (⟨#[114, 101, 116, 117, 114, 110]⟩ : ByteArray) K1.out HN4.out).mono ?_); rintro e w' ⟨rfl, rfl⟩) | (go_at_call 99; (with_reducible refine (ks_has_f (⟨#[102, 97, 105, 108]⟩ : ByteArray) K1.out HN5.out).mono ?_); rintro e w' ⟨rfl, rfl⟩) | (go_at_call 99; (with_reducible refine (ks_has_f (⟨#[115, 108, 101, 101, 112]⟩ : ByteArray) K1.out HN6.out).mono ?_); rintro e w' ⟨rfl, rfl⟩) | (go_at_call 99; (with_reducible refine (ks_has_t (⟨#[100, 111]⟩ : ByteArray) K1.out HN7.out).mono ?_); rintro e w2 ⟨rfl, hk⟩; have K2 := Aside0.mk hk.k; clear hk) | (go_at_call 57; (with_reducible refine (ks_call (HIH.out k (Nat.lt_succ_self k)).expr_ H8.out HL2.out K2.out).mono ?_); rintro e w3 ⟨A9, c9, rfl, ht, hk⟩; have K3 := Aside0.mk hk.k; have T9 := Aside0.mk ht; clear ht hk) | (go_at_call 88; refine (rd_of1 K3.out GL.out T9.out).mono ?_; rintro e w4 ⟨A90, c90, rfl, ht, hk⟩; have T90 := Aside0.mk ht; have K4 := Aside0.mk hk; clear ht hk))
                    go_ret
                    exact PostR.ok_ T90.out K4.out
                  · have H8 := Aside0.mk h1
                    clear h1
                    go_enter Try.func108, Try.ntmps108
                    go_wp2_with (first | (go_at_call 107; (with_reducible refine (ks_mine K0.out HN0.out).mono ?_); rintro e w1 ⟨rfl, hk⟩; have K1 := Aside0.mk hk.k; clear hk) | (go_at_call 99; (with_reducible refine (ks_has_f (⟨#[108, 101, 116]⟩ : ByteArray) K1.out HN1.out).mono ?_); rintro e w' ⟨rfl, rfl⟩) | (go_at_call 99; (with_reducible refine (ks_has_f (⟨#[105, 102]⟩ : ByteArray) K1.out HN2.out).mono ?_); rintro e w' ⟨rfl, rfl⟩) | (go_at_call 99; (with_reducible refine (ks_has_f (⟨#[119, 104, 105, 108, 101]⟩ : ByteArray) K1.out HN3.out).mono ?_); rintro e w' ⟨rfl, rfl⟩) | (go_at_call 99; (with_reducible refine (ks_has_f (⟨#[114, 101, 116, 117, 114, 110]⟩ : ByteArray) K1.out HN4.out).mono ?_); rintro e w' ⟨rfl, rfl⟩) | (go_at_call 99; (with_reducible refine (ks_has_f (⟨#[102, 97, 105, 108]⟩ : ByteArray) K1.out HN5.out).mono ?_); rintro e w' ⟨rfl, rfl⟩) | (go_at_call 99; (with_reducible refine (ks_has_f (⟨#[115, 108, 101, 101, 112]⟩ : ByteArray) K1.out HN6.out).mono ?_); rintro e w' ⟨rfl, rfl⟩) | (go_at_call 99; (with_reducible refine (ks_has_t (⟨#[100, 111]⟩ : ByteArray) K1.out HN7.out).mono ?_); rintro e w2 ⟨rfl, hk⟩; have K2 := Aside0.mk hk.k; clear hk) | (go_at_call 57; (with_reducible refine (ks_call_bad (HIH.out k (Nat.lt_succ_self k)).expr_ H8.out HL2.out K2.out).mono ?_); rintro e w' ⟨rfl, hb⟩))
                    exact ⟨rfl, rfl, hb⟩
                · clear hr; have hr := hq; clear hq; have HN7 := Aside0.mk (Bool.eq_false_iff.2 hn)
                  clear hn
                  obtain rfl := Option.some.inj hr
                  clear hr
                  go_enter Try.func108, Try.ntmps108
                  go_wp2_with (first | (go_at_call 107; (with_reducible refine (ks_mine K0.out HN0.out).mono ?_); rintro e w1 ⟨rfl, hk⟩; have K1 := Aside0.mk hk.k; clear hk) | (go_at_call 99; (with_reducible refine (ks_has_f (⟨#[108, 101, 116]⟩ : ByteArray) K1.out HN1.out).mono ?_); rintro e w' ⟨rfl, rfl⟩) | (go_at_call 99; (with_reducible refine (ks_has_f (⟨#[105, 102]⟩ : ByteArray) K1.out HN2.out).mono ?_); rintro e w' ⟨rfl, rfl⟩) | (go_at_call 99; (with_reducible refine (ks_has_f (⟨#[119, 104, 105, 108, 101]⟩ : ByteArray) K1.out HN3.out).mono ?_); rintro e w' ⟨rfl, rfl⟩) | (go_at_call 99; (with_reducible refine (ks_has_f (⟨#[114, 101, 116, 117, 114, 110]⟩ : ByteArray) K1.out HN4.out).mono ?_); rintro e w' ⟨rfl, rfl⟩) | (go_at_call 99; (with_reducible refine (ks_has_f (⟨#[102, 97, 105, 108]⟩ : ByteArray) K1.out HN5.out).mono ?_); rintro e w' ⟨rfl, rfl⟩) | (go_at_call 99; (with_reducible refine (ks_has_f (⟨#[115, 108, 101, 101, 112]⟩ : ByteArray) K1.out HN6.out).mono ?_); rintro e w' ⟨rfl, rfl⟩) | (go_at_call 99; (with_reducible refine (ks_has_f (⟨#[100, 111]⟩ : ByteArray) K1.out HN7.out).mono ?_); rintro e w' ⟨rfl, rfl⟩) | (go_at_call 79; (with_reducible refine (ks_fault K1.out).mono ?_); rintro e w' ⟨rfl, hb⟩))
                  exact ⟨rfl, rfl, hb⟩
end Go.Proofs.Ytlbchdalimngjaa.P
namespace Go.Proofs.Ytlbchdalimngjaa.P
open Go.RowKit Go.Proofs.YtlbchdalimngjaaW.PrintWords Go.Proofs.YtlbchdalimngjaaW.PrintLast Go.Proofs.YtlbchdalimngjaaW.PrintMore
attribute [local go_sem] mk_run' mk_events'
set_option linter.unusedVariables false
set_option linter.unusedSimpArgs false
def listG (S : Nat → List Tok → Bool → Option Res) : Nat → ByteArray → List (List Twg) → List Tok → Bool → Option (Rz (List (List Twg)))
  | 0, _, _, _, _ => none
  | k + 1, e, acc, l, g => andThen (S k l g) fun t l g => if isB l e = true then some (.ok (acc ++ [t]) l.tail g) else mustS (⟨#[44]⟩ : ByteArray) l fun l => listG S k e (acc ++ [t]) l g
theorem listS_G : ∀ (k : Nat) (e : ByteArray) (acc : List (List Twg)) (l : List Tok) (g : Bool), listS k e acc l g = listG (fun m => levS m 0) k e acc l g
  | 0, e, acc, l, g => by rw [listS, listG]
  | k + 1, e, acc, l, g => by
    rw [listS, listG]
    congr 1
    funext t l g
    split
    · rfl
    · unfold mustS
      split
      · exact listS_G k e _ _ _
      · rfl
theorem parS_G : ∀ (k : Nat) (acc : List (List Twg)) (l : List Tok) (g : Bool), parS k acc l g = listG (fun _ l g => ownS l fun s l => some (.ok [opT 2 s] l g)) k (⟨#[41]⟩ : ByteArray) acc l g
  | 0, acc, l, g => by rw [parS, listG]
  | k + 1, acc, l, g => by
    rw [parS, listG]
    unfold ownS
    cases l with
    | nil => rfl
    | cons x r =>
      dsimp only
      split
      · show _ = (if isB r (⟨#[41]⟩ : ByteArray) = true then _ else _)
        split
        · rfl
        · unfold mustS
          split
          · exact parS_G k _ _ _
          · rfl
      · rfl
def PostL (w0 w : World) (g : Nat) (size : Int) : Rz (List (List Twg)) → Ending → World → Prop
  | .ok ts l lg, e, w' => ∃ A c, e = .returned (.slice A ts.length c) ∧ Sr w w' (.slice A ts.length c) ts ∧ Keeps w0 w w' g l size lg
  | .bad l, e, w' => e = .panicked (faultC l size) ∧ Below w0.heap.size w0 w'
def Item_ (mf : Nat) (p : Value) (S : Nat → List Tok → Bool → Option Res) (k : Nat) (w0 w : World) (g : Nat) (size : Int) : Prop := ∀ (m : Nat), m < k → ∀ (l : List Tok) (lg : Bool) (r : Res) (W : World), S m l lg = some r → l.length ≤ 100000 → Keeps w0 w W g l size lg → Calls Try.prog mf #[p] W (PostR w0 W g size r)
theorem item_at {mf : Nat} {p : Value} {S : Nat → List Tok → Bool → Option Res} {k m : Nat} {w0 w W : World} {g : Nat} {size : Int} {l : List Tok} {lg : Bool} {r : Res} (h : Item_ mf p S k w0 w g size) (hm : m < k) (hr : S m l lg = some r) (hl : l.length ≤ 100000) (K : Keeps w0 w W g l size lg) : Calls Try.prog mf #[p] W (PostR w0 W g size r) := h m hm l lg r W hr hl K
theorem PostL.ok_ {w0 w w' : World} {g : Nat} {size : Int} {A : Option Addr} {c : Nat} {ts : List (List Twg)} {l : List Tok} {lg : Bool} (h : Sr w w' (.slice A ts.length c) ts) (k : Keeps w0 w w' g l size lg) : PostL w0 w g size (.ok ts l lg) (.returned (.slice A ts.length c)) w' := ⟨A, c, rfl, h, k⟩
section
variable {A : Option Addr} {w W : World} {v : Value} {ts y : List (List Twg)} {t : List Twg} {c : Nat}
variable {P : Program} {ops : Array Oper} {rest : List Oper} {o : Oper} {a : Act} {Q : Exit → Act → World → Prop}
theorem trees_append' {B : Nat} (hy : y = ts ++ [t]) (hB : w.heap.size ≤ B) (hBW : B ≤ W.heap.size) (hgd : o.guard = none) (s x : Operand)
    (ho : o.op = .call { callee := .builtin .append, args := #[s, x], argTypes := #[38, 38] }) (hs : a.eval s = v) (hx : a.eval x = .slice (some ⟨W.heap.size, 0, none⟩) 1 1)
    (hS : Kd.S (Kd.slice 43 k43) 36 W w.heap.size (fun k => k < B) v ts) (hl : ts.length ≤ 1000000) (hT : Kd.R k43 43 W B (fun _ => True) (.slice A t.length c) t)
    (h : ∀ A1 c1 w1, Kd.S (Kd.slice 43 k43) 36 w1 w.heap.size (fun _ => True) (.slice A1 y.length c1) y → Below w.heap.size W w1 → wpList Try.prog ops Q rest (a.put o.dst (.slice A1 y.length c1)) w1) :
    wpList Try.prog ops Q (o :: rest) a (W.alloc (.cells #[.slice A t.length c] 36 (0, 0))) := by
  subst hy
  exact trees_append hB hBW hgd s x ho hs hx hS hl hT h
end
set_option maxHeartbeats 8000000 in
set_option maxRecDepth 100000 in
theorem rd_listm_nil {mf : Nat} {p : Value} {w0 w W : World} {g : Nat} {size : Int} {lg : Bool} {x : Tok} {r : List Tok} (en : ByteArray) (K0' : Keeps w0 w W g (x :: r) size lg) (hs : isB (x :: r) en = true) :
    Calls Try.prog 86 #[.pointer (some ⟨g, 0, none⟩), .string en, .func (.func mf) #[p] #[]] W fun e w' => e = .returned (.slice none 0 0) ∧ Stp w0 w W g r size lg w' := by
  have K0 := Aside0.mk K0'
  have HE := Aside0.mk hs
  clear K0' hs
  go_enter Try.func86, Try.ntmps86
  go_wp2_with (go_at_call 99; (with_reducible refine (ks_has_t en K0.out HE.out).mono ?_); rintro e w1 ⟨rfl, hk⟩; have K1 := Aside0.mk hk; clear hk)
  go_ret
  exact ⟨rfl, K1.out⟩
set_option maxHeartbeats 8000000 in
set_option maxRecDepth 100000 in
theorem rd_listm {mf : Nat} {p : Value} {S : Nat → List Tok → Bool → Option Res} {k : Nat} {w0 w : World} {g : Nat} {size : Int} {lg : Bool} {l : List Tok} {r : Rz (List (List Twg))} (en : ByteArray) (hent : Ent Try.prog mf) (hit : Item_ mf p S k w0 w g size) (hsh : ∀ m l g r, S m l g = some r → Sh l r)
    (hr : listG S k en [] l lg = some r) (hl : l.length ≤ 100000) (hI : IsRd w0 w g l size lg) (hB : Below w0.heap.size w0 w) (hs : isB l en = false) :
    Calls Try.prog 86 #[.pointer (some ⟨g, 0, none⟩), .string en, .func (.func mf) #[p] #[]] w (PostL w0 w g size r) := by
  have hent' : ∀ (args : Array Value) (w : World), Sem.run Try.prog (callFunc mf args) w = .ok (.enter mf args) w := hent
  have K0 := Aside0.mk (Keeps.refl hI hB)
  have GL := Aside0.mk hI.lt
  have HL0 := Aside0.mk hl
  have HE0 := Aside0.mk hs
  have HI := Aside0.mk hit
  have HSH := Aside0.mk hsh
  have HR := Aside0.mk hr
  clear hI hB hl hs hit hsh hr hent
  go_enter Try.func86, Try.ntmps86
  go_upto_block 0 with (go_at_call 99; (with_reducible refine (ks_has_f en K0.out HE0.out).mono ?_); rintro e w' ⟨rfl, rfl⟩)
  go_wp2
  go_loopg [7] k (fun kq q w' => ∃ (v7 : Value) (acc : List (List Twg)) (l : List Tok) (lg : Bool), v7 = q ∧ Aside0 (listG S kq en acc l lg = some r) ∧ Aside0 (kq ≤ k) ∧ Aside0 (acc.length + l.length ≤ 100000) ∧ Aside0 (Sr w w' q acc) ∧ Aside0 (Keeps w0 w w' g l size lg))
  case atStart => exact ⟨_, [], _, _, rfl, HR, ⟨Nat.le_refl _⟩, ⟨by have := HL0.out; simpa using this⟩, ⟨Sr.nil _ _⟩, K0⟩
  case round =>
    clear K0 HL0 HE0 HR
    obtain ⟨v7, acc, l, lg, rfl, HA, HKq, HL, HS, HK⟩ := hrel
    cases gk with
    | zero => exact absurd HA.out (by simp [listG])
    | succ kq =>
      have H := HA.out
      clear HA
      rw [listG] at H
      have HMk := Aside0.mk (show kq < k by have := HKq.out; omega)
      have HLl := Aside0.mk (show l.length ≤ 100000 by have := HL.out; omega)
      have HN := Aside0.mk (show acc.length ≤ 1000000 by have := HL.out; omega)
      rcases andThen_inv H with ⟨t, l1, g1, h1, h2⟩ | ⟨l1, h1, rfl⟩
      · have H1 := Aside0.mk h1
        have HD := Aside0.mk (HSH.out _ _ _ _ h1).2.1
        obtain ⟨y, hy⟩ : ∃ y, y = acc ++ [t] := ⟨_, rfl⟩
        rw [← hy] at h2
        have HY := Aside0.mk hy
        clear h1 H hy
        rcases ite_inv h2 with ⟨hn, h3⟩ | ⟨hn, h3⟩
        · obtain ⟨x1, m1, rfl⟩ := isB_cons hn
          have HE := Aside0.mk hn
          obtain rfl := Option.some.inj h3
          clear h2 h3 hn
          go_wp2_with (first | ((with_reducible refine (item_at HI.out HMk.out H1.out HLl.out HK.out).mono ?_); rintro e w1 ⟨A1, c1, rfl, ht, hk⟩; have Q1 := Aside0.mk (HS.out.call GL.out hk.k); have G1 := Aside0.mk hk.k.1; have U1 := Aside0.mk ht; have K1 := Aside0.mk (HK.out.then_ hk); clear ht hk) | ((with_reducible refine gate_builtin (b := .append) (xs := #[.tmp 12, .tmp 15]) rfl ?_); at_builtin; refine trees_append' (w := w) (B := wr.heap.size) HY.out HK.out.grows G1.out rfl (.tmp 12) (.tmp 15) rfl rfl rfl Q1.out HN.out U1.out.1 ?_; intro A2 c2 w2 hs hb; have S2 := Aside0.mk (show Sr w w2 _ y from ⟨hs, by have h := HS.out.snoc U1.out.2; rw [← HY.out] at h; exact h⟩); have K2 := Aside0.mk (K1.out.own GL.out hb); clear hs hb) | (go_at_call 99; (with_reducible refine (ks_has_t en K2.out HE.out).mono ?_); rintro e w3 ⟨rfl, hk⟩; have S3 := Aside0.mk (S2.out.keep GL.out hk.b); have K3 := Aside0.mk hk.k; clear hk))
          go_ret
          exact PostL.ok_ S3.out K3.out
        · have HE := Aside0.mk (Bool.eq_false_iff.2 hn)
          clear hn h2
          rcases mustS_inv h3 with ⟨x1, m1, rfl, hn, h4⟩ | ⟨hn, rfl⟩
          · have HC := Aside0.mk hn
            have H4 := Aside0.mk h4
            clear hn h3 h4
            go_wp2_with (first | ((with_reducible refine (item_at HI.out HMk.out H1.out HLl.out HK.out).mono ?_); rintro e w1 ⟨A1, c1, rfl, ht, hk⟩; have Q1 := Aside0.mk (HS.out.call GL.out hk.k); have G1 := Aside0.mk hk.k.1; have U1 := Aside0.mk ht; have K1 := Aside0.mk (HK.out.then_ hk); clear ht hk) | ((with_reducible refine gate_builtin (b := .append) (xs := #[.tmp 12, .tmp 15]) rfl ?_); at_builtin; refine trees_append' (w := w) (B := wr.heap.size) HY.out HK.out.grows G1.out rfl (.tmp 12) (.tmp 15) rfl rfl rfl Q1.out HN.out U1.out.1 ?_; intro A2 c2 w2 hs hb; have S2 := Aside0.mk (show Sr w w2 _ y from ⟨hs, by have h := HS.out.snoc U1.out.2; rw [← HY.out] at h; exact h⟩); have K2 := Aside0.mk (K1.out.own GL.out hb); clear hs hb) | (go_at_call 99; (with_reducible refine (ks_has_f en K2.out HE.out).mono ?_); rintro e w' ⟨rfl, rfl⟩) | (go_at_call 84; (with_reducible refine (ks_must_t (⟨#[44]⟩ : ByteArray) K2.out HC.out).mono ?_); rintro e w3 ⟨rfl, hk⟩; have S3 := Aside0.mk (S2.out.keep GL.out hk.b); have K3 := Aside0.mk hk.k; clear hk))
            go_roundg kq
            case measure => omega
            case rel => exact ⟨_, y, _, _, rfl, H4, ⟨by have := HMk.out; omega⟩, ⟨by have := HL.out; have := HD.out; rw [HY.out, List.length_append, List.length_singleton]; rw [List.length_cons] at this; omega⟩, S3, K3⟩
          · have HC := Aside0.mk hn
            clear hn h3
            go_wp2_with (first | ((with_reducible refine (item_at HI.out HMk.out H1.out HLl.out HK.out).mono ?_); rintro e w1 ⟨A1, c1, rfl, ht, hk⟩; have Q1 := Aside0.mk (HS.out.call GL.out hk.k); have G1 := Aside0.mk hk.k.1; have U1 := Aside0.mk ht; have K1 := Aside0.mk (HK.out.then_ hk); clear ht hk) | ((with_reducible refine gate_builtin (b := .append) (xs := #[.tmp 12, .tmp 15]) rfl ?_); at_builtin; refine trees_append' (w := w) (B := wr.heap.size) HY.out HK.out.grows G1.out rfl (.tmp 12) (.tmp 15) rfl rfl rfl Q1.out HN.out U1.out.1 ?_; intro A2 c2 w2 hs hb; have S2 := Aside0.mk (show Sr w w2 _ y from ⟨hs, by have h := HS.out.snoc U1.out.2; rw [← HY.out] at h; exact h⟩); have K2 := Aside0.mk (K1.out.own GL.out hb); clear hs hb) | (go_at_call 99; (with_reducible refine (ks_has_f en K2.out HE.out).mono ?_); rintro e w' ⟨rfl, rfl⟩) | (go_at_call 84; (with_reducible refine (ks_must_f (⟨#[44]⟩ : ByteArray) K2.out HC.out).mono ?_); rintro e w' ⟨rfl, hb⟩))
            exact ⟨rfl, rfl, hb⟩
      · have H1 := Aside0.mk h1
        clear h1 H
        go_wp2_with (((with_reducible refine (item_at HI.out HMk.out H1.out HLl.out HK.out).mono ?_); rintro e w1 ⟨rfl, hb⟩))
        exact ⟨rfl, rfl, hb⟩
set_option maxHeartbeats 8000000 in
set_option maxRecDepth 100000 in
theorem rd_listc_nil {mf : Nat} {p : Value} {w0 w W : World} {g : Nat} {size : Int} {lg : Bool} {x : Tok} {r : List Tok} (en : ByteArray) (K0' : Keeps w0 w W g (x :: r) size lg) (hs : isB (x :: r) en = true) :
    Calls Try.prog 86 #[.pointer (some ⟨g, 0, none⟩), .string en, .func (.func mf) #[] #[p]] W fun e w' => e = .returned (.slice none 0 0) ∧ Stp w0 w W g r size lg w' := by
  have K0 := Aside0.mk K0'
  have HE := Aside0.mk hs
  clear K0' hs
  go_enter Try.func86, Try.ntmps86
  go_wp2_with (go_at_call 99; (with_reducible refine (ks_has_t en K0.out HE.out).mono ?_); rintro e w1 ⟨rfl, hk⟩; have K1 := Aside0.mk hk; clear hk)
  go_ret
  exact ⟨rfl, K1.out⟩
set_option maxHeartbeats 8000000 in
set_option maxRecDepth 100000 in
theorem rd_listc {mf : Nat} {p : Value} {S : Nat → List Tok → Bool → Option Res} {k : Nat} {w0 w : World} {g : Nat} {size : Int} {lg : Bool} {l : List Tok} {r : Rz (List (List Twg))} (en : ByteArray) (hent : Ent Try.prog mf) (hit : Item_ mf p S k w0 w g size) (hsh : ∀ m l g r, S m l g = some r → Sh l r)
    (hr : listG S k en [] l lg = some r) (hl : l.length ≤ 100000) (hI : IsRd w0 w g l size lg) (hB : Below w0.heap.size w0 w) (hs : isB l en = false) :
    Calls Try.prog 86 #[.pointer (some ⟨g, 0, none⟩), .string en, .func (.func mf) #[] #[p]] w (PostL w0 w g size r) := by
  have hent' : ∀ (args : Array Value) (w : World), Sem.run Try.prog (callFunc mf args) w = .ok (.enter mf args) w := hent
  have K0 := Aside0.mk (Keeps.refl hI hB)
  have GL := Aside0.mk hI.lt
  have HL0 := Aside0.mk hl
  have HE0 := Aside0.mk hs
  have HI := Aside0.mk hit
  have HSH := Aside0.mk hsh
  have HR := Aside0.mk hr
  clear hI hB hl hs hit hsh hr hent
  go_enter Try.func86, Try.ntmps86
  go_upto_block 0 with (go_at_call 99; (with_reducible refine (ks_has_f en K0.out HE0.out).mono ?_); rintro e w' ⟨rfl, rfl⟩)
  go_wp2
  go_loopg [7] k (fun kq q w' => ∃ (v7 : Value) (acc : List (List Twg)) (l : List Tok) (lg : Bool), v7 = q ∧ Aside0 (listG S kq en acc l lg = some r) ∧ Aside0 (kq ≤ k) ∧ Aside0 (acc.length + l.length ≤ 100000) ∧ Aside0 (Sr w w' q acc) ∧ Aside0 (Keeps w0 w w' g l size lg))
  case atStart => exact ⟨_, [], _, _, rfl, HR, ⟨Nat.le_refl _⟩, ⟨by have := HL0.out; simpa using this⟩, ⟨Sr.nil _ _⟩, K0⟩
  case round =>
    clear K0 HL0 HE0 HR
    obtain ⟨v7, acc, l, lg, rfl, HA, HKq, HL, HS, HK⟩ := hrel
    cases gk with
    | zero => exact absurd HA.out (by simp [listG])
    | succ kq =>
      have H := HA.out
      clear HA
      rw [listG] at H
      have HMk := Aside0.mk (show kq < k by have := HKq.out; omega)
      have HLl := Aside0.mk (show l.length ≤ 100000 by have := HL.out; omega)
      have HN := Aside0.mk (show acc.length ≤ 1000000 by have := HL.out; omega)
      rcases andThen_inv H with ⟨t, l1, g1, h1, h2⟩ | ⟨l1, h1, rfl⟩
      · have H1 := Aside0.mk h1
        have HD := Aside0.mk (HSH.out _ _ _ _ h1).2.1
        obtain ⟨y, hy⟩ : ∃ y, y = acc ++ [t] := ⟨_, rfl⟩
        rw [← hy] at h2
        have HY := Aside0.mk hy
        clear h1 H hy
        rcases ite_inv h2 with ⟨hn, h3⟩ | ⟨hn, h3⟩
        · obtain ⟨x1, m1, rfl⟩ := isB_cons hn
          have HE := Aside0.mk hn
          obtain rfl := Option.some.inj h3
          clear h2 h3 hn
          go_wp2_with (first | ((with_reducible refine (item_at HI.out HMk.out H1.out HLl.out HK.out).mono ?_); rintro e w1 ⟨A1, c1, rfl, ht, hk⟩; have Q1 := Aside0.mk (HS.out.call GL.out hk.k); have G1 := Aside0.mk hk.k.1; have U1 := Aside0.mk ht; have K1 := Aside0.mk (HK.out.then_ hk); clear ht hk) | ((with_reducible refine gate_builtin (b := .append) (xs := #[.tmp 12, .tmp 15]) rfl ?_); at_builtin; refine trees_append' (w := w) (B := wr.heap.size) HY.out HK.out.grows G1.out rfl (.tmp 12) (.tmp 15) rfl rfl rfl Q1.out HN.out U1.out.1 ?_; intro A2 c2 w2 hs hb; have S2 := Aside0.mk (show Sr w w2 _ y from ⟨hs, by have h := HS.out.snoc U1.out.2; rw [← HY.out] at h; exact h⟩); have K2 := Aside0.mk (K1.out.own GL.out hb); clear hs hb) | (go_at_call 99; (with_reducible refine (ks_has_t en K2.out HE.out).mono ?_); rintro e w3 ⟨rfl, hk⟩; have S3 := Aside0.mk (S2.out.keep GL.out hk.b); have K3 := Aside0.mk hk.k; clear hk))
          go_ret
          exact PostL.ok_ S3.out K3.out
        · have HE := Aside0.mk (Bool.eq_false_iff.2 hn)
          clear hn h2
          rcases mustS_inv h3 with ⟨x1, m1, rfl, hn, h4⟩ | ⟨hn, rfl⟩
          · have HC := Aside0.mk hn
            have H4 := Aside0.mk h4
            clear hn h3 h4
            go_wp2_with (first | ((with_reducible refine (item_at HI.out HMk.out H1.out HLl.out HK.out).mono ?_); rintro e w1 ⟨A1, c1, rfl, ht, hk⟩; have Q1 := Aside0.mk (HS.out.call GL.out hk.k); have G1 := Aside0.mk hk.k.1; have U1 := Aside0.mk ht; have K1 := Aside0.mk (HK.out.then_ hk); clear ht hk) | ((with_reducible refine gate_builtin (b := .append) (xs := #[.tmp 12, .tmp 15]) rfl ?_); at_builtin; refine trees_append' (w := w) (B := wr.heap.size) HY.out HK.out.grows G1.out rfl (.tmp 12) (.tmp 15) rfl rfl rfl Q1.out HN.out U1.out.1 ?_; intro A2 c2 w2 hs hb; have S2 := Aside0.mk (show Sr w w2 _ y from ⟨hs, by have h := HS.out.snoc U1.out.2; rw [← HY.out] at h; exact h⟩); have K2 := Aside0.mk (K1.out.own GL.out hb); clear hs hb) | (go_at_call 99; (with_reducible refine (ks_has_f en K2.out HE.out).mono ?_); rintro e w' ⟨rfl, rfl⟩) | (go_at_call 84; (with_reducible refine (ks_must_t (⟨#[44]⟩ : ByteArray) K2.out HC.out).mono ?_); rintro e w3 ⟨rfl, hk⟩; have S3 := Aside0.mk (S2.out.keep GL.out hk.b); have K3 := Aside0.mk hk.k; clear hk))
            go_roundg kq
            case measure => omega
            case rel => exact ⟨_, y, _, _, rfl, H4, ⟨by have := HMk.out; omega⟩, ⟨by have := HL.out; have := HD.out; rw [HY.out, List.length_append, List.length_singleton]; rw [List.length_cons] at this; omega⟩, S3, K3⟩
          · have HC := Aside0.mk hn
            clear hn h3
            go_wp2_with (first | ((with_reducible refine (item_at HI.out HMk.out H1.out HLl.out HK.out).mono ?_); rintro e w1 ⟨A1, c1, rfl, ht, hk⟩; have Q1 := Aside0.mk (HS.out.call GL.out hk.k); have G1 := Aside0.mk hk.k.1; have U1 := Aside0.mk ht; have K1 := Aside0.mk (HK.out.then_ hk); clear ht hk) | ((with_reducible refine gate_builtin (b := .append) (xs := #[.tmp 12, .tmp 15]) rfl ?_); at_builtin; refine trees_append' (w := w) (B := wr.heap.size) HY.out HK.out.grows G1.out rfl (.tmp 12) (.tmp 15) rfl rfl rfl Q1.out HN.out U1.out.1 ?_; intro A2 c2 w2 hs hb; have S2 := Aside0.mk (show Sr w w2 _ y from ⟨hs, by have h := HS.out.snoc U1.out.2; rw [← HY.out] at h; exact h⟩); have K2 := Aside0.mk (K1.out.own GL.out hb); clear hs hb) | (go_at_call 99; (with_reducible refine (ks_has_f en K2.out HE.out).mono ?_); rintro e w' ⟨rfl, rfl⟩) | (go_at_call 84; (with_reducible refine (ks_must_f (⟨#[44]⟩ : ByteArray) K2.out HC.out).mono ?_); rintro e w' ⟨rfl, hb⟩))
            exact ⟨rfl, rfl, hb⟩
      · have H1 := Aside0.mk h1
        clear h1 H
        go_wp2_with (((with_reducible refine (item_at HI.out HMk.out H1.out HLl.out HK.out).mono ?_); rintro e w1 ⟨rfl, hb⟩))
        exact ⟨rfl, rfl, hb⟩
section
variable {w0 w W : World} {g : Nat} {l r : List Tok} {size : Int} {lg lg' : Bool} {ts : List (List Twg)}
def GotL (w0 w W : World) (g : Nat) (l : List Tok) (size : Int) (lg : Bool) (ts : List (List Twg)) (e : Ending) (w' : World) : Prop := ∃ A c, e = .returned (.slice A ts.length c) ∧ Sr w w' (.slice A ts.length c) ts ∧ Stp w0 w W g l size lg w'
theorem list_at {k : Nat} (IH : ∀ m, m < k → AllOk m) (en : ByteArray) {q : Rz (List (List Twg))} (hr : listS k en [] l lg = some q) (hl : l.length ≤ 100000) (K : Keeps w0 w W g l size lg) (hs : isB l en = false) :
    Calls Try.prog 86 #[.pointer (some ⟨g, 0, none⟩), .string en, .func (.func 57) #[.pointer (some ⟨g, 0, none⟩)] #[]] W (PostL w0 W g size q) := by
  rw [listS_G] at hr
  exact rd_listm en (ent_of 0) (fun m hm l lg r W' h1 h2 h3 => fn_at (IH m hm).expr_ h1 h2 h3.i h3.b) (fun m l g r h => (all_sh m).1 _ _ _ _ h) hr hl K.i K.b hs
theorem ks_list {k : Nat} (IH : ∀ m, m < k → AllOk m) (en : ByteArray) (hr : listS k en [] l lg = some (.ok ts r lg')) (hl : l.length ≤ 100000) (K : Keeps w0 w W g l size lg) (hs : isB l en = false) :
    Calls Try.prog 86 #[.pointer (some ⟨g, 0, none⟩), .string en, .func (.func 57) #[.pointer (some ⟨g, 0, none⟩)] #[]] W (GotL w0 w W g r size lg' ts) :=
  (list_at IH en hr hl K hs).mono fun e w' ⟨A, c, h1, h2, h3⟩ => ⟨A, c, h1, h2.lower K.grows, K.then_ h3, h3.k⟩
theorem ks_list_bad {k : Nat} (IH : ∀ m, m < k → AllOk m) (en : ByteArray) (hr : listS k en [] l lg = some (.bad r)) (hl : l.length ≤ 100000) (K : Keeps w0 w W g l size lg) (hs : isB l en = false) :
    Calls Try.prog 86 #[.pointer (some ⟨g, 0, none⟩), .string en, .func (.func 57) #[.pointer (some ⟨g, 0, none⟩)] #[]] W (Thr w0 r size) := list_at IH en hr hl K hs
theorem list_sh {k : Nat} {en : ByteArray} (hr : listS k en [] l lg = some (.ok ts r lg')) : r <:+ l ∧ ts.length + r.length ≤ l.length := by
  have := (all_sh k).2.2.2.2.1 en [] l lg _ (by simp) hr
  exact ⟨this.1, by simpa using this.2.2.1⟩
theorem isB_ne {s s' : ByteArray} (h : isB l s = true) (hn : (s.toList == s'.toList) = false) : isB l s' = false := by
  obtain ⟨x, r, rfl⟩ := isB_cons h
  unfold isB at h ⊢
  simp only [Bool.and_eq_true] at h
  have e := eq_of_beq h.2
  show ((x.f0 == 1 || x.f0 == 4) && (x.f1.toList == s'.toList)) = false
  rw [e, hn, Bool.and_false]
end
end Go.Proofs.Ytlbchdalimngjaa.P
