/- Parts of a proof, joined by a program: Proved here: the statement prompterlaw09.ParseGoesOn holds for every input that the row speaks of (no condition of mine). -/
import Derived.Defers
import Derived.Recover
import Derived.StillTailTactics
import Derived.BigRegion
import Derived.Shelf.Small.Strs
import Derived.Shelf.Strings.Search1
import Derived.Test.YtlbchdalimngjaaParseGoesOnd
namespace Go.Proofs.Ytlbchdalimngjaa.P
open Go.RowKit Go.Proofs.YtlbchdalimngjaaW.PrintWords Go.Proofs.YtlbchdalimngjaaW.PrintLast Go.Proofs.YtlbchdalimngjaaW.PrintMore
attribute [local go_sem] mk_run' mk_events'
set_option linter.unusedVariables false
set_option linter.unusedSimpArgs false
set_option maxHeartbeats 8000000 in
set_option maxRecDepth 100000 in
theorem rd_block {k : Nat} (IH : ∀ m, m < k + 1 → AllOk m) : Fn_ 89 (blockS (k + 1)) := by
  intro l long r w0 w g size hr hl hI hB
  have K0 := Aside0.mk (Keeps.refl hI hB)
  have GL := Aside0.mk hI.lt
  have HL0 := Aside0.mk hl
  have HIH := Aside0.mk IH
  clear hI hB hl IH
  rw [blockS] at hr
  rcases mustS_inv hr with ⟨x0, m0, rfl, hn, hq⟩ | ⟨hn, rfl⟩
  · have HN0 := Aside0.mk hn
    have HL1 := Aside0.mk (show m0.length ≤ 100000 by have := HL0.out; rw [List.length_cons] at this; omega)
    have HR := Aside0.mk hq
    clear hn hr hq
    go_enter Try.func89, Try.ntmps89
    go_upto_block 0 with (go_at_call 84; (with_reducible refine (ks_must_t (⟨#[123]⟩ : ByteArray) K0.out HN0.out).mono ?_); rintro e w1 ⟨rfl, hk⟩; have K1 := Aside0.mk hk.k; clear hk)
    go_wp2
    go_loopg [3] k (fun kq q w' => ∃ (A : Option Addr) (c : Nat) (acc : List (List Twg)) (l : List Tok) (lg : Bool), q = .slice A acc.length c ∧ Aside0 (stmtsS kq acc l lg = some r) ∧ Aside0 (kq ≤ k) ∧ Aside0 (acc.length + l.length ≤ 100000) ∧ Aside0 (Sr w w' (.slice A acc.length c) acc) ∧ Aside0 (Keeps w0 w w' g l size lg))
    case atStart => exact ⟨none, 0, [], _, _, rfl, HR, ⟨Nat.le_refl _⟩, ⟨by have := HL1.out; simpa using this⟩, ⟨Sr.nil _ _⟩, K1⟩
    case round =>
      clear K0 HL0 HL1 HR HN0 K1
      obtain ⟨A, c, acc, l, lg, rfl, HA, HKq, HL, HS, HK⟩ := hrel
      cases gk with
      | zero => exact absurd HA.out (by simp [stmtsS])
      | succ kq =>
        have H := HA.out
        clear HA
        rw [stmtsS] at H
        have HMk := Aside0.mk (HIH.out kq (by have := HKq.out; omega))
        have HLl := Aside0.mk (show l.length ≤ 100000 by have := HL.out; omega)
        have HN := Aside0.mk (show acc.length ≤ 1000000 by have := HL.out; omega)
        rcases ite_inv H with ⟨hn, h2⟩ | ⟨hn, h2⟩
        · obtain ⟨x1, m1, rfl⟩ := isB_cons hn
          have HE := Aside0.mk hn
          obtain rfl := Option.some.inj h2
          clear H h2 hn
          go_wp2_with (first | (go_at_call 99; (with_reducible refine (ks_has_t (⟨#[125]⟩ : ByteArray) HK.out HE.out).mono ?_); rintro e w3 ⟨rfl, hk⟩; have S3 := Aside0.mk (HS.out.keep GL.out hk.b); have K3 := Aside0.mk hk.k; clear hk) | (go_at_call 88; refine (rd_of_row (ts := acc) (A := A) (c := c) K3.out GL.out S3.out HN.out).mono ?_; rintro e w4 ⟨A4, c4, rfl, ht, hk⟩; have T4 := Aside0.mk ht; have K4 := Aside0.mk hk; clear ht hk))
          go_ret
          exact PostR.ok_ T4.out K4.out
        · have HE := Aside0.mk (Bool.eq_false_iff.2 hn)
          clear hn H
          rcases andThen_inv h2 with ⟨t, l1, g1, h1, h3⟩ | ⟨l1, h1, rfl⟩
          · have H1 := Aside0.mk h1
            have HD := Aside0.mk ((all_sh kq).2.2.2.2.2.2.2.2.2.2 _ _ _ h1).2.1
            obtain ⟨y, hy⟩ : ∃ y, y = acc ++ [t] := ⟨_, rfl⟩
            rw [← hy] at h3
            have HY := Aside0.mk hy
            have H3 := Aside0.mk h3
            clear h1 h2 h3 hy
            go_wp2_with (first | (go_at_call 99; (with_reducible refine (ks_has_f (⟨#[125]⟩ : ByteArray) HK.out HE.out).mono ?_); rintro e w' ⟨rfl, rfl⟩) | (go_at_call 108; (with_reducible refine (ks_call HMk.out.stmt_ H1.out HLl.out (Keeps.refl HK.out.i HK.out.b)).mono ?_); rintro e w1 ⟨A1, c1, rfl, ht, hk⟩; have Q1 := Aside0.mk (HS.out.call GL.out hk.b); have G1 := Aside0.mk hk.b.1; have U1 := Aside0.mk ht; have K1 := Aside0.mk (HK.out.then_ hk.k); clear ht hk) | ((with_reducible refine gate_builtin (b := .append) (xs := #[.tmp 9, .tmp 12]) rfl ?_); at_builtin; refine trees_append' (w := w) (B := wr.heap.size) HY.out HK.out.grows G1.out rfl (.tmp 9) (.tmp 12) rfl rfl rfl Q1.out HN.out U1.out.1 ?_; intro A2 c2 w2 hs hb; have S2 := Aside0.mk (show Sr w w2 _ y from ⟨hs, by have h := HS.out.snoc U1.out.2; rw [← HY.out] at h; exact h⟩); have K2 := Aside0.mk (K1.out.own GL.out hb); clear hs hb))
            go_roundg kq
            case measure => omega
            case rel => exact ⟨A2, c2, y, _, _, rfl, H3, ⟨by have := HKq.out; omega⟩, ⟨by have := HL.out; have := HD.out; rw [HY.out, List.length_append, List.length_singleton]; omega⟩, S2, K2⟩
          · have H1 := Aside0.mk h1
            clear h1 h2
            go_wp2_with (first | (go_at_call 99; (with_reducible refine (ks_has_f (⟨#[125]⟩ : ByteArray) HK.out HE.out).mono ?_); rintro e w' ⟨rfl, rfl⟩) | (go_at_call 108; (with_reducible refine (ks_call_bad HMk.out.stmt_ H1.out HLl.out HK.out).mono ?_); rintro e w1 ⟨rfl, hb⟩))
            exact ⟨rfl, rfl, hb⟩
  · have HN0 := Aside0.mk hn
    clear hn
    go_enter Try.func89, Try.ntmps89
    go_wp2_with (go_at_call 84; (with_reducible refine (ks_must_f (⟨#[123]⟩ : ByteArray) K0.out HN0.out).mono ?_); rintro e w' ⟨rfl, hb⟩)
    exact ⟨rfl, rfl, hb⟩
set_option maxHeartbeats 8000000 in
set_option maxRecDepth 100000 in
theorem rd_pre {k : Nat} (IH : ∀ m, m < k + 1 → AllOk m) : Fn_ 121 (preS (k + 1)) := by
  intro l long r w0 w g size hr hl hI hB
  have K0 := Aside0.mk (Keeps.refl hI hB)
  have GL := Aside0.mk hI.lt
  have HL0 := Aside0.mk hl
  have HIH := Aside0.mk IH
  clear hI hB hl IH
  rw [preS] at hr
  rcases ite_inv hr with ⟨hn, hq⟩ | ⟨hn, hq⟩
  · clear hr; have hr := hq; clear hq; obtain ⟨x0, m0, rfl⟩ := isB_cons hn
    try simp only [List.tail_cons] at hr
    have HN0 := Aside0.mk hn
    have HL1 := Aside0.mk (show m0.length ≤ 100000 by have := HL0.out; rw [List.length_cons] at this; omega)
    clear hn
    rcases andThen_inv hr with ⟨t2, m1, g2, h1, hr⟩ | ⟨m1, h1, rfl⟩
    · have H1 := Aside0.mk h1
      have HL2 := Aside0.mk (Nat.le_trans ((all_sh k).2.2.1 _ _ _ h1).1.length_le HL1.out)
      clear h1
      obtain rfl := Option.some.inj hr
      clear hr
      go_enter Try.func121, Try.ntmps121
      go_wp2_with (first | (go_at_call 99; (with_reducible refine (ks_has_t (⟨#[45]⟩ : ByteArray) K0.out HN0.out).mono ?_); rintro e w1 ⟨rfl, hk⟩; have K1 := Aside0.mk hk.k; clear hk) | (go_at_call 121; (with_reducible refine (ks_call (HIH.out k (Nat.lt_succ_self k)).pre_ H1.out HL1.out K1.out).mono ?_); rintro e w2 ⟨A2, c2, rfl, ht, hk⟩; have K2 := Aside0.mk hk.k; have T2 := Aside0.mk ht; clear ht hk) | (go_at_call 88; refine (rd_of1 K2.out GL.out T2.out).mono ?_; rintro e w3 ⟨A90, c90, rfl, ht, hk⟩; have T90 := Aside0.mk ht; have K3 := Aside0.mk hk; clear ht hk))
      go_ret
      exact PostR.ok_ T90.out K3.out
    · have H1 := Aside0.mk h1
      clear h1
      go_enter Try.func121, Try.ntmps121
      go_wp2_with (first | (go_at_call 99; (with_reducible refine (ks_has_t (⟨#[45]⟩ : ByteArray) K0.out HN0.out).mono ?_); rintro e w1 ⟨rfl, hk⟩; have K1 := Aside0.mk hk.k; clear hk) | (go_at_call 121; (with_reducible refine (ks_call_bad (HIH.out k (Nat.lt_succ_self k)).pre_ H1.out HL1.out K1.out).mono ?_); rintro e w' ⟨rfl, hb⟩))
      exact ⟨rfl, rfl, hb⟩
  · clear hr; have hr := hq; clear hq; have HN0 := Aside0.mk (Bool.eq_false_iff.2 hn)
    clear hn
    rcases ite_inv hr with ⟨hn, hq⟩ | ⟨hn, hq⟩
    · clear hr; have hr := hq; clear hq; obtain ⟨x1, m1, rfl⟩ := isB_cons hn
      try simp only [List.tail_cons] at hr
      have HN1 := Aside0.mk hn
      have HL1 := Aside0.mk (show m1.length ≤ 100000 by have := HL0.out; rw [List.length_cons] at this; omega)
      clear hn
      rcases andThen_inv hr with ⟨t3, m2, g3, h1, hr⟩ | ⟨m2, h1, rfl⟩
      · have H2 := Aside0.mk h1
        have HL2 := Aside0.mk (Nat.le_trans ((all_sh k).2.2.1 _ _ _ h1).1.length_le HL1.out)
        clear h1
        obtain rfl := Option.some.inj hr
        clear hr
        go_enter Try.func121, Try.ntmps121
        go_wp2_with (first | (go_at_call 99; (with_reducible refine (ks_has_f (⟨#[45]⟩ : ByteArray) K0.out HN0.out).mono ?_); rintro e w' ⟨rfl, rfl⟩) | (go_at_call 99; (with_reducible refine (ks_has_t (⟨#[97, 119, 97, 105, 116]⟩ : ByteArray) K0.out HN1.out).mono ?_); rintro e w1 ⟨rfl, hk⟩; have K1 := Aside0.mk hk.k; clear hk) | (go_at_call 121; (with_reducible refine (ks_call (HIH.out k (Nat.lt_succ_self k)).pre_ H2.out HL1.out K1.out).mono ?_); rintro e w2 ⟨A3, c3, rfl, ht, hk⟩; have K2 := Aside0.mk hk.k; have T3 := Aside0.mk ht; clear ht hk) | (go_at_call 88; refine (rd_of1 K2.out GL.out T3.out).mono ?_; rintro e w3 ⟨A90, c90, rfl, ht, hk⟩; have T90 := Aside0.mk ht; have K3 := Aside0.mk hk; clear ht hk))
        go_ret
        exact PostR.ok_ T90.out K3.out
      · have H2 := Aside0.mk h1
        clear h1
        go_enter Try.func121, Try.ntmps121
        go_wp2_with (first | (go_at_call 99; (with_reducible refine (ks_has_f (⟨#[45]⟩ : ByteArray) K0.out HN0.out).mono ?_); rintro e w' ⟨rfl, rfl⟩) | (go_at_call 99; (with_reducible refine (ks_has_t (⟨#[97, 119, 97, 105, 116]⟩ : ByteArray) K0.out HN1.out).mono ?_); rintro e w1 ⟨rfl, hk⟩; have K1 := Aside0.mk hk.k; clear hk) | (go_at_call 121; (with_reducible refine (ks_call_bad (HIH.out k (Nat.lt_succ_self k)).pre_ H2.out HL1.out K1.out).mono ?_); rintro e w' ⟨rfl, hb⟩))
        exact ⟨rfl, rfl, hb⟩
    · clear hr; have hr := hq; clear hq; have HN1 := Aside0.mk (Bool.eq_false_iff.2 hn)
      clear hn
      rcases ite_inv hr with ⟨hn, hq⟩ | ⟨hn, hq⟩
      · clear hr; have hr := hq; clear hq; obtain ⟨x2, m2, rfl⟩ := isB_cons hn
        try simp only [List.tail_cons] at hr
        have HN2 := Aside0.mk hn
        have HL1 := Aside0.mk (show m2.length ≤ 100000 by have := HL0.out; rw [List.length_cons] at this; omega)
        clear hn
        rcases andThen_inv hr with ⟨t4, m3, g4, h1, hr⟩ | ⟨m3, h1, rfl⟩
        · have H3 := Aside0.mk h1
          have HL2 := Aside0.mk (Nat.le_trans ((all_sh k).2.2.1 _ _ _ h1).1.length_le HL1.out)
          clear h1
          obtain rfl := Option.some.inj hr
          clear hr
          go_enter Try.func121, Try.ntmps121
          go_wp2_with (first | (go_at_call 99; (with_reducible refine (ks_has_f (⟨#[45]⟩ : ByteArray) K0.out HN0.out).mono ?_); rintro e w' ⟨rfl, rfl⟩) | (go_at_call 99; (with_reducible refine (ks_has_f (⟨#[97, 119, 97, 105, 116]⟩ : ByteArray) K0.out HN1.out).mono ?_); rintro e w' ⟨rfl, rfl⟩) | (go_at_call 99; (with_reducible refine (ks_has_t (⟨#[115, 101, 116, 116, 108, 101]⟩ : ByteArray) K0.out HN2.out).mono ?_); rintro e w1 ⟨rfl, hk⟩; have K1 := Aside0.mk hk.k; clear hk) | (go_at_call 121; (with_reducible refine (ks_call (HIH.out k (Nat.lt_succ_self k)).pre_ H3.out HL1.out K1.out).mono ?_); rintro e w2 ⟨A4, c4, rfl, ht, hk⟩; have K2 := Aside0.mk hk.k; have T4 := Aside0.mk ht; clear ht hk) | (go_at_call 88; refine (rd_of1 K2.out GL.out T4.out).mono ?_; rintro e w3 ⟨A90, c90, rfl, ht, hk⟩; have T90 := Aside0.mk ht; have K3 := Aside0.mk hk; clear ht hk))
          go_ret
          exact PostR.ok_ T90.out K3.out
        · have H3 := Aside0.mk h1
          clear h1
          go_enter Try.func121, Try.ntmps121
          go_wp2_with (first | (go_at_call 99; (with_reducible refine (ks_has_f (⟨#[45]⟩ : ByteArray) K0.out HN0.out).mono ?_); rintro e w' ⟨rfl, rfl⟩) | (go_at_call 99; (with_reducible refine (ks_has_f (⟨#[97, 119, 97, 105, 116]⟩ : ByteArray) K0.out HN1.out).mono ?_); rintro e w' ⟨rfl, rfl⟩) | (go_at_call 99; (with_reducible refine (ks_has_t (⟨#[115, 101, 116, 116, 108, 101]⟩ : ByteArray) K0.out HN2.out).mono ?_); rintro e w1 ⟨rfl, hk⟩; have K1 := Aside0.mk hk.k; clear hk) | (go_at_call 121; (with_reducible refine (ks_call_bad (HIH.out k (Nat.lt_succ_self k)).pre_ H3.out HL1.out K1.out).mono ?_); rintro e w' ⟨rfl, hb⟩))
          exact ⟨rfl, rfl, hb⟩
      · clear hr; have hr := hq; clear hq; have HN2 := Aside0.mk (Bool.eq_false_iff.2 hn)
        clear hn
        rcases andThen_inv hr with ⟨t1, m1, g1, h1, hq⟩ | ⟨m1, h1, rfl⟩
        · have H1 := Aside0.mk h1
          have HL1 := Aside0.mk (Nat.le_trans ((all_sh k).2.2.2.2.2.2.1 _ _ _ h1).1.length_le HL0.out)
          have HR := Aside0.mk hq
          clear h1 hr hq
          go_enter Try.func121, Try.ntmps121
          go_upto_block 1 with (first | (go_at_call 99; (with_reducible refine (ks_has_f (⟨#[45]⟩ : ByteArray) K0.out HN0.out).mono ?_); rintro e w' ⟨rfl, rfl⟩) | (go_at_call 99; (with_reducible refine (ks_has_f (⟨#[97, 119, 97, 105, 116]⟩ : ByteArray) K0.out HN1.out).mono ?_); rintro e w' ⟨rfl, rfl⟩) | (go_at_call 99; (with_reducible refine (ks_has_f (⟨#[115, 101, 116, 116, 108, 101]⟩ : ByteArray) K0.out HN2.out).mono ?_); rintro e w' ⟨rfl, rfl⟩) | (go_at_call 126; (with_reducible refine (ks_call (HIH.out k (Nat.lt_succ_self k)).prim_ H1.out HL0.out K0.out).mono ?_); rintro e w1 ⟨A1, c1, rfl, ht, hk⟩; have K1 := Aside0.mk hk.k; have T1 := Aside0.mk ht; clear ht hk))
          go_wp2
          go_loopg [3] k (fun kq q w' => ∃ (A : Option Addr) (c : Nat) (t : List Twg) (l : List Tok) (lg : Bool), q = .slice A t.length c ∧ Aside0 (idxS kq t l lg = some r) ∧ Aside0 (kq ≤ k) ∧ Aside0 (l.length ≤ 100000) ∧ Aside0 (Tr w w' (.slice A t.length c) t) ∧ Aside0 (Keeps w0 w w' g l size lg))
          case atStart => exact ⟨_, _, _, _, _, rfl, HR, ⟨Nat.le_refl _⟩, HL1, T1, K1⟩
          case round =>
            clear K0 HL0 HL1 HR K1 H1 T1
            obtain ⟨A, c, t, l, lg, rfl, HA, HKq, HL, HT, HK⟩ := hrel
            cases gk with
            | zero => exact absurd HA.out (by simp [idxS])
            | succ kq =>
              have H := HA.out
              clear HA
              rw [idxS] at H
              have HMk := Aside0.mk (HIH.out kq (by have := HKq.out; omega))
              rcases ite_inv H with ⟨hn, h2⟩ | ⟨hn, h2⟩
              · obtain ⟨x1, m1, rfl⟩ := isB_cons hn
                have HE := Aside0.mk hn
                have HLl := Aside0.mk (show m1.length ≤ 100000 by have := HL.out; rw [List.length_cons] at this; omega)
                try simp only [List.tail_cons] at h2
                clear hn H
                rcases andThen_inv h2 with ⟨u, l1, g1, h1, h3⟩ | ⟨l1, h1, rfl⟩
                · have H1 := Aside0.mk h1
                  have HD := Aside0.mk ((all_sh kq).1 _ _ _ _ h1).1.length_le
                  clear h1 h2
                  rcases mustS_inv h3 with ⟨x2, m2, rfl, hn, h4⟩ | ⟨hn, rfl⟩
                  · have HC := Aside0.mk hn
                    have H4 := Aside0.mk h4
                    clear hn h3 h4
                    go_wp2_with (first | (go_at_call 99; (with_reducible refine (ks_has_t (⟨#[91]⟩ : ByteArray) HK.out HE.out).mono ?_); rintro e w1 ⟨rfl, hk⟩; have T1 := Aside0.mk (HT.out.keep GL.out hk.b); have K1 := Aside0.mk hk.k; clear hk) | (go_at_call 57; (with_reducible refine (ks_call HMk.out.expr_ H1.out HLl.out K1.out).mono ?_); rintro e w2 ⟨A2, c2, rfl, ht, hk⟩; have T2 := Aside0.mk (T1.out.keep GL.out hk.b); have U2 := Aside0.mk ht; have K2 := Aside0.mk hk.k; clear ht hk) | (go_at_call 88; refine (rd_of2 K2.out GL.out T2.out U2.out).mono ?_; rintro e w3 ⟨A3, c3, rfl, ht, hk⟩; have T3 := Aside0.mk ht; have K3 := Aside0.mk hk; clear ht hk) | (go_at_call 84; (with_reducible refine (ks_must_t (⟨#[93]⟩ : ByteArray) K3.out HC.out).mono ?_); rintro e w4 ⟨rfl, hk⟩; have T4 := Aside0.mk (T3.out.keep GL.out hk.b); have K4 := Aside0.mk hk.k; clear hk))
                    go_roundg kq
                    case measure => omega
                    case rel => exact ⟨_, _, _, _, _, rfl, H4, ⟨by have := HKq.out; omega⟩, ⟨by have := HLl.out; have := HD.out; rw [List.length_cons] at this; omega⟩, T4, K4⟩
                  · have HC := Aside0.mk hn
                    clear hn h3
                    go_wp2_with (first | (go_at_call 99; (with_reducible refine (ks_has_t (⟨#[91]⟩ : ByteArray) HK.out HE.out).mono ?_); rintro e w1 ⟨rfl, hk⟩; have T1 := Aside0.mk (HT.out.keep GL.out hk.b); have K1 := Aside0.mk hk.k; clear hk) | (go_at_call 57; (with_reducible refine (ks_call HMk.out.expr_ H1.out HLl.out K1.out).mono ?_); rintro e w2 ⟨A2, c2, rfl, ht, hk⟩; have T2 := Aside0.mk (T1.out.keep GL.out hk.b); have U2 := Aside0.mk ht; have K2 := Aside0.mk hk.k; clear ht hk) | (go_at_call 88; refine (rd_of2 K2.out GL.out T2.out U2.out).mono ?_; rintro e w3 ⟨A3, c3, rfl, ht, hk⟩; have T3 := Aside0.mk ht; have K3 := Aside0.mk hk; clear ht hk) | (go_at_call 84; (with_reducible refine (ks_must_f (⟨#[93]⟩ : ByteArray) K3.out HC.out).mono ?_); rintro e w' ⟨rfl, hb⟩))
                    exact ⟨rfl, rfl, hb⟩
                · have H1 := Aside0.mk h1
                  clear h1 h2
                  go_wp2_with (first | (go_at_call 99; (with_reducible refine (ks_has_t (⟨#[91]⟩ : ByteArray) HK.out HE.out).mono ?_); rintro e w1 ⟨rfl, hk⟩; have T1 := Aside0.mk (HT.out.keep GL.out hk.b); have K1 := Aside0.mk hk.k; clear hk) | (go_at_call 57; (with_reducible refine (ks_call_bad HMk.out.expr_ H1.out HLl.out K1.out).mono ?_); rintro e w2 ⟨rfl, hb⟩))
                  exact ⟨rfl, rfl, hb⟩
              · have HE := Aside0.mk (Bool.eq_false_iff.2 hn)
                obtain rfl := Option.some.inj h2
                clear hn h2 H
                go_wp2_with (go_at_call 99; (with_reducible refine (ks_has_f (⟨#[91]⟩ : ByteArray) HK.out HE.out).mono ?_); rintro e w' ⟨rfl, rfl⟩)
                go_ret
                exact PostR.ok_ HT.out HK.out
        · have H1 := Aside0.mk h1
          clear h1 hr
          go_enter Try.func121, Try.ntmps121
          go_wp2_with (first | (go_at_call 99; (with_reducible refine (ks_has_f (⟨#[45]⟩ : ByteArray) K0.out HN0.out).mono ?_); rintro e w' ⟨rfl, rfl⟩) | (go_at_call 99; (with_reducible refine (ks_has_f (⟨#[97, 119, 97, 105, 116]⟩ : ByteArray) K0.out HN1.out).mono ?_); rintro e w' ⟨rfl, rfl⟩) | (go_at_call 99; (with_reducible refine (ks_has_f (⟨#[115, 101, 116, 116, 108, 101]⟩ : ByteArray) K0.out HN2.out).mono ?_); rintro e w' ⟨rfl, rfl⟩) | (go_at_call 126; (with_reducible refine (ks_call_bad (HIH.out k (Nat.lt_succ_self k)).prim_ H1.out HL0.out K0.out).mono ?_); rintro e w' ⟨rfl, hb⟩))
          exact ⟨rfl, rfl, hb⟩
end Go.Proofs.Ytlbchdalimngjaa.P
namespace Go.Proofs.Ytlbchdalimngjaa.P
open Go.RowKit Go.Proofs.YtlbchdalimngjaaW.PrintWords Go.Proofs.YtlbchdalimngjaaW.PrintLast Go.Proofs.YtlbchdalimngjaaW.PrintMore
set_option linter.unusedVariables false
theorem all_ok (k : Nat) : AllOk k := by
  induction k using Nat.strongRecOn with
  | ind k IH =>
    cases k with
    | zero =>
      refine ⟨fun lv _ => ?_, ?_, ?_, ?_, ?_⟩ <;> intro l long r w0 w g size hr <;> simp [levS, preS, primS, blockS, stmtS] at hr
    | succ k =>
      refine ⟨fun lv hlv => ?_, rd_pre IH, rd_prim IH, rd_block IH, rd_stmt IH⟩
      match lv, hlv with
      | 0, _ => exact rd_expr IH
      | 1, _ => exact rd_and IH
      | 2, _ => exact rd_not IH
      | 3, _ => exact rd_sum IH
      | 4, _ => exact rd_term IH
      | 5, _ =>
        intro l long r w0 w g size hr
        rw [levS, if_pos (by decide)] at hr
        exact (IH k (Nat.lt_succ_self k)).pre_ l long r w0 w g size hr
end Go.Proofs.Ytlbchdalimngjaa.P
namespace Go.Proofs.Ytlbchdalimngjaa.P
open Go.RowKit Go.Proofs.YtlbchdalimngjaaW.PrintWords Go.Proofs.YtlbchdalimngjaaW.PrintLast Go.Proofs.YtlbchdalimngjaaW.PrintMore
attribute [local go_sem] mk_run' mk_events'
set_option linter.unusedVariables false
set_option linter.unusedSimpArgs false
def parI (_ : Nat) (l : List Tok) (g : Bool) : Option Res := ownS l fun s l => some (.ok [opT 2 s] l g)
theorem parI_sh (m : Nat) (l : List Tok) (g : Bool) (r : Res) (h : parI m l g = some r) : Sh l r := by
  rcases ownS_inv h with ⟨x, l', rfl, _, hq⟩ | ⟨_, rfl⟩
  · obtain rfl := Option.some.inj hq
    exact ⟨List.suffix_cons _ _, by simp, by simp⟩
  · exact List.suffix_refl _
theorem ent_par : Ent Try.prog 87 := enters_ Try.func87 (by kernel_rfl) rfl
set_option maxHeartbeats 8000000 in
set_option maxRecDepth 100000 in
theorem par_item {k : Nat} {w0 w : World} {g b : Nat} {size : Int} {T : TypeId} (hb : w.heap[b]? = some (.cells #[.pointer (some ⟨g, 0, none⟩)] T (0, 0))) (hbg : b ≠ g) : Item_ 87 (.pointer (some ⟨b, 0, none⟩)) parI k w0 w g size := by
  intro m hm l lg r W hr hl K
  have K0 := Aside0.mk (Keeps.refl K.i K.b)
  have hx : W.cell? ⟨b, 0, none⟩ = some (.pointer (some ⟨g, 0, none⟩)) := (blk_cell (K.k.blk hb hbg (by simp)) 0).trans rfl
  clear hb K hl hm
  rcases ownS_inv hr with ⟨x1, m1, rfl, hn, hq⟩ | ⟨hn, rfl⟩
  · have HN := Aside0.mk hn
    obtain rfl := Option.some.inj hq
    clear hn hr hq
    go_enter Try.func87, Try.ntmps87
    go_wp2_with (first | (go_at_call 85; (with_reducible refine (ks_own_t K0.out HN.out).mono ?_); rintro e w1 ⟨rfl, hk⟩; have K1 := Aside0.mk hk.k; clear hk) | ((with_reducible refine gate_dst (N := 5) rfl ?_); refine Kd.R_lit k43 _ 43 ?hg (N := 5) ?hd (xs := ([(⟨2, 0, 0, x1.f1⟩ : Twg)] : List Twg)) (inner := [.int .u8 2, .int .i64 0, .int .i64 0, .string x1.f1]) (ok := fun _ => True) (okp := fun _ => True) ?hr ?hp (fun _ hk => hk) trivial (Below.refl _ _) (Nat.le_refl _) (by simp) ?_; (case hd => rfl); (case hg => rfl); (case hr => first | (go_simp; done) | (go_simp; rfl)); (case hp => exact (Reps.c4 (show Kd.M k43 _ _ _ (⟨2, 0, 0, x1.f1⟩ : Twg) [.int .u8 2, .int .i64 0, .int .i64 0, .string x1.f1] from (k43_mkM _ _ _ (⟨2, 0, 0, x1.f1⟩ : Twg))) (Reps.none _ _))); intro v0 w2 ho hb _ _; have T0 := Aside0.mk (Kd.R_lower ho K1.out.grows); have K2 := Aside0.mk (K1.out.below hb); clear ho hb))
    go_ret
    exact PostR.ok_ (Tr.one T0.out) K2.out
  · have HN := Aside0.mk hn
    clear hn hr
    go_enter Try.func87, Try.ntmps87
    go_wp2_with (go_at_call 85; (with_reducible refine (ks_own_f K0.out HN.out).mono ?_); rintro e w' ⟨rfl, hb⟩)
    exact ⟨rfl, rfl, hb⟩
section
variable {w0 w W : World} {g b : Nat} {l r : List Tok} {size : Int} {lg lg' : Bool} {ts : List (List Twg)} {T : TypeId}
theorem par_at {k : Nat} {q : Rz (List (List Twg))} (hb : W.heap[b]? = some (.cells #[.pointer (some ⟨g, 0, none⟩)] T (0, 0))) (hbg : b ≠ g) (hr : (if isB l (⟨#[41]⟩ : ByteArray) = true then some (.ok [] l.tail lg) else parS k [] l lg) = some q) (hl : l.length ≤ 100000) (K : Keeps w0 w W g l size lg) :
    Calls Try.prog 86 #[.pointer (some ⟨g, 0, none⟩), .string (⟨#[41]⟩ : ByteArray), .func (.func 87) #[] #[.pointer (some ⟨b, 0, none⟩)]] W (PostL w0 W g size q) := by
  rcases ite_inv hr with ⟨hn, hq⟩ | ⟨hn, hq⟩
  · obtain ⟨x1, m1, rfl⟩ := isB_cons hn
    obtain rfl := Option.some.inj hq
    refine (rd_listc_nil _ (Keeps.refl K.i K.b) hn).mono fun e w' ⟨h1, h2⟩ => ?_
    subst h1
    exact ⟨none, 0, rfl, Sr.nil _ _, h2.k⟩
  · rw [parS_G] at hq
    exact rd_listc _ ent_par (par_item (k := k) hb hbg) parI_sh hq hl K.i K.b (Bool.eq_false_iff.2 hn)
variable {P : Program} {ops : Array Oper} {o : Oper} {a : Act} {Q : Exit → Act → World → Prop} {Kc : Act → World → Prop} {v : Value} {t : List Twg} {A : Option Addr} {c : Nat}
theorem trees_append_step {E : Prop} {B : Nat} (hB : w.heap.size ≤ B) (hBW : B ≤ W.heap.size) (hgd : o.guard = none) (s x : Operand)
    (ho : o.op = .call { callee := .builtin .append, args := #[s, x], argTypes := #[38, 38] }) (hs : a.eval s = v) (hx : a.eval x = .slice (some ⟨W.heap.size, 0, none⟩) 1 1)
    (hS : Kd.S (Kd.slice 43 k43) 36 W w.heap.size (fun k => k < B) v ts) (hl : ts.length ≤ 1000000) (hT : Kd.R k43 43 W B (fun _ => True) (.slice A t.length c) t)
    (h : ∀ A1 c1 w1, Kd.S (Kd.slice 43 k43) 36 w1 w.heap.size (fun _ => True) (.slice A1 (ts ++ [t]).length c1) (ts ++ [t]) → Below w.heap.size W w1 → Kc (a.put o.dst (.slice A1 (ts ++ [t]).length c1)) w1) :
    if Region.wanted o (yielded ops a.tmps) = true then Oper.wp Try.prog o a (W.alloc (.cells #[.slice A t.length c] 36 (0, 0))) Kc Q else E := by
  have hw : Region.wanted o (yielded ops a.tmps) = true := by simp [Region.wanted, hgd]
  rw [if_pos hw]
  have key : (if Region.wanted o (yielded ops a.tmps) = true then Oper.wp Try.prog o a (W.alloc (.cells #[.slice A t.length c] 36 (0, 0))) Kc Q else Kc (a.put o.dst undef) (W.alloc (.cells #[.slice A t.length c] 36 (0, 0)))) := by
    refine Kd.S_append_step (Kd.slice 43 k43) (w0 := W) w.heap.size hw s x 38 36 (.slice none 0 0) 24 ho Try.underlying38 info36 rfl (by decide) (by omega) v ts t [.slice A t.length c] (fun _ => True) (fun k => B ≤ k) hs hx ?_ ?_ (fun _ _ => trivial) ?_ (Below.refl _ _) (Nat.le_trans hB hBW) (by omega) ?_
    · exact Kd.M_row (Kd.R_lower (Kd.R_mono (Kd.R_bound hT) (fun k hk => hk.2.1)) hB)
    · intro k hk
      refine ⟨trivial, fun he => ?_⟩
      have := (Kd.S_R hS).1 k he.symm
      omega
    · exact Kd.S_mono hS (fun k hk => ⟨trivial, by omega⟩)
    · intro v1 w1 h1 h2 _ _
      obtain ⟨A1, c1, rfl, _, _⟩ := Kd.S_reads h1
      exact h A1 c1 w1 h1 h2
  rw [if_pos hw] at key
  exact key
theorem trees_append_step' {E : Prop} {B : Nat} {y : List (List Twg)} (hy : y = ts ++ [t]) (hB : w.heap.size ≤ B) (hBW : B ≤ W.heap.size) (hgd : o.guard = none) (s x : Operand)
    (ho : o.op = .call { callee := .builtin .append, args := #[s, x], argTypes := #[38, 38] }) (hs : a.eval s = v) (hx : a.eval x = .slice (some ⟨W.heap.size, 0, none⟩) 1 1)
    (hS : Kd.S (Kd.slice 43 k43) 36 W w.heap.size (fun k => k < B) v ts) (hl : ts.length ≤ 1000000) (hT : Kd.R k43 43 W B (fun _ => True) (.slice A t.length c) t)
    (h : ∀ A1 c1 w1, Kd.S (Kd.slice 43 k43) 36 w1 w.heap.size (fun _ => True) (.slice A1 y.length c1) y → Below w.heap.size W w1 → Kc (a.put o.dst (.slice A1 y.length c1)) w1) :
    if Region.wanted o (yielded ops a.tmps) = true then Oper.wp Try.prog o a (W.alloc (.cells #[.slice A t.length c] 36 (0, 0))) Kc Q else E := by
  subst hy
  exact trees_append_step hB hBW hgd s x ho hs hx hS hl hT h
theorem never_step {E : Prop} {W' : World} (h : False) (hr : ∀ A1 n1 m1 (w1 : World), Kc (a.put o.dst (.slice A1 n1 m1)) w1) : if Region.wanted o (yielded ops a.tmps) = true then Oper.wp P o a W' Kc Q else E := h.elim
theorem listG_len {S : Nat → List Tok → Bool → Option Res} (hS : ∀ m l g r, S m l g = some r → Sh l r) : ∀ (k : Nat) (e : ByteArray) (acc : List (List Twg)) (l : List Tok) (g : Bool) (ts : List (List Twg)) (l' : List Tok) (g' : Bool), listG S k e acc l g = some (.ok ts l' g') → ts.length + l'.length ≤ acc.length + l.length
  | 0, e, acc, l, g, ts, l', g', h => by simp [listG] at h
  | k + 1, e, acc, l, g, ts, l', g', h => by
    rw [listG] at h
    rcases andThen_inv h with ⟨t, l1, g1, h1, h2⟩ | ⟨l1, h1, h2⟩
    · have hs := (hS _ _ _ _ h1).2.1
      rcases ite_inv h2 with ⟨hn, h3⟩ | ⟨hn, h3⟩
      · obtain ⟨x1, m1, rfl⟩ := isB_cons hn
        have h4 := Option.some.inj h3
        injection h4 with e1 e2 e3
        subst e1 e2
        simp only [List.length_append, List.length_singleton, List.tail_cons]
        rw [List.length_cons] at hs
        omega
      · rcases mustS_inv h3 with ⟨x1, m1, rfl, _, h4⟩ | ⟨_, h4⟩
        · have := listG_len hS k e _ _ _ _ _ _ h4
          rw [List.length_append, List.length_singleton] at this
          rw [List.length_cons] at hs
          omega
        · cases h4
    · cases h2
theorem par_len {k : Nat} (hr : (if isB l (⟨#[41]⟩ : ByteArray) = true then some (.ok [] l.tail lg) else parS k [] l lg) = some (.ok ts r lg')) : ts.length + r.length ≤ l.length := by
  rcases ite_inv hr with ⟨hn, hq⟩ | ⟨hn, hq⟩
  · obtain ⟨x1, m1, rfl⟩ := isB_cons hn
    have h4 := Option.some.inj hq
    injection h4 with e1 e2 e3
    subst e1 e2
    simp
  · rw [parS_G] at hq
    simpa using listG_len parI_sh _ _ _ _ _ _ _ _ hq
end
end Go.Proofs.Ytlbchdalimngjaa.P
namespace Go.Proofs.Ytlbchdalimngjaa.P
open Go.RowKit Go.Proofs.YtlbchdalimngjaaW.PrintWords Go.Proofs.YtlbchdalimngjaaW.PrintLast Go.Proofs.YtlbchdalimngjaaW.PrintMore
attribute [local go_sem] mk_run' mk_events'
set_option linter.unusedVariables false
set_option linter.unusedSimpArgs false
set_option maxHeartbeats 8000000 in
set_option maxRecDepth 100000 in
theorem rd_flow {k : Nat} : Fn_ 59 (flowS k) := by
  intro l long r w0 w g size hr hl hI hB
  have K0 := Aside0.mk (Keeps.refl hI hB)
  have GL := Aside0.mk hI.lt
  have HL0 := Aside0.mk hl
  have HA := Aside0.mk (all_ok k)
  clear hI hB hl
  unfold flowS at hr
  have HL1 := Aside0.mk HL0.out
  rcases mustS_inv hr with ⟨x0, m0, rfl, hn, hr⟩ | ⟨hn, rfl⟩
  · have HN0 := Aside0.mk hn
    have HL2 := Aside0.mk (show m0.length ≤ 100000 by have := HL1.out; rw [List.length_cons] at this; omega)
    clear hn
    rcases ownS_inv hr with ⟨x1, m1, rfl, hn, hr⟩ | ⟨hn, rfl⟩
    · have HN1 := Aside0.mk hn
      have HL3 := Aside0.mk (show m1.length ≤ 100000 by have := HL2.out; rw [List.length_cons] at this; omega)
      clear hn
      have HL4 := Aside0.mk HL3.out
      rcases mustS_inv hr with ⟨x2, m2, rfl, hn, hr⟩ | ⟨hn, rfl⟩
      · have HN2 := Aside0.mk hn
        have HL5 := Aside0.mk (show m2.length ≤ 100000 by have := HL4.out; rw [List.length_cons] at this; omega)
        clear hn
        rcases andThen_inv hr with ⟨ps, m9, g9, h1, hq⟩ | ⟨m9, h1, rfl⟩
        · have H9 := Aside0.mk h1
          have HP := Aside0.mk (show ps.length ≤ 100000 by have := par_len h1; have := HL5.out; omega)
          have HL9 := Aside0.mk (show m9.length ≤ 100000 by have := par_len h1; have := HL5.out; omega)
          clear h1 hr
          rcases andThen_inv hq with ⟨t1, m8, g8, h2, hq2⟩ | ⟨m8, h2, rfl⟩
          · have H8 := Aside0.mk h2
            obtain ⟨y, hy⟩ : ∃ y, y = ps ++ [t1] := ⟨_, rfl⟩
            rw [← hy] at hq2
            have HY := Aside0.mk hy
            have HY2 := Aside0.mk (show y.length ≤ 1000000 by have := HP.out; rw [hy, List.length_append, List.length_singleton]; omega)
            obtain rfl := Option.some.inj hq2
            clear h2 hq hq2 hy
            go_enter Try.func59, Try.ntmps59
            go_upto_region 1 with (fail)
            obtain ⟨b1, hbb⟩ : ∃ b, b = w.heap.size := ⟨_, rfl⟩
            obtain ⟨w1, hww⟩ : ∃ W : World, W = w.alloc (.cells #[.pointer (some ⟨g, 0, none⟩)] 78 (0, 0)) := ⟨_, rfl⟩
            have K1 := Aside0.mk (show Keeps w0 w w1 g _ size _ by rw [hww]; exact K0.out.alloc _)
            have X1 := Aside0.mk (show w1.heap[b1]? = some (.cells #[.pointer (some ⟨g, 0, none⟩)] 78 (0, 0)) by rw [hww, hbb]; exact blk_new _ _)
            have Y1 := Aside0.mk (show g < b1 by rw [hbb]; exact K0.out.i.lt)
            rw [← hww, ← hbb]
            clear hww hbb
            have hp1 : w1.cell? ⟨b1, 0, none⟩ = some (.pointer (some ⟨g, 0, none⟩)) := (blk_cell X1.out 0).trans rfl
            go_upto_region 3 with (first | (go_at_call 84; (with_reducible refine (ks_must_t (⟨#[102, 108, 111, 119]⟩ : ByteArray) K1.out HN0.out).mono ?_); rintro e w2 ⟨rfl, hk⟩; have K2 := Aside0.mk hk.k; replace X1 := Aside0.mk (hk.b.blk X1.out (by have := Y1.out; omega) (by simp)); have hp2 : w2.cell? ⟨b1, 0, none⟩ = some (.pointer (some ⟨g, 0, none⟩)) := (blk_cell X1.out 0).trans rfl; clear hk) | (go_at_call 85; (with_reducible refine (ks_own_t K2.out HN1.out).mono ?_); rintro e w3 ⟨rfl, hk⟩; have K3 := Aside0.mk hk.k; replace X1 := Aside0.mk (hk.b.blk X1.out (by have := Y1.out; omega) (by simp)); have hp3 : w3.cell? ⟨b1, 0, none⟩ = some (.pointer (some ⟨g, 0, none⟩)) := (blk_cell X1.out 0).trans rfl; clear hk))
            obtain ⟨b2, hbb⟩ : ∃ b, b = w3.heap.size := ⟨_, rfl⟩
            obtain ⟨w4, hww⟩ : ∃ W : World, W = w3.alloc (.cells #[.int .u8 1, .int .i64 0, .int .i64 0, .string x1.f1] 43 (0, 0)) := ⟨_, rfl⟩
            have K4 := Aside0.mk (show Keeps w0 w w4 g _ size _ by rw [hww]; exact K3.out.alloc _)
            have X2 := Aside0.mk (show w4.heap[b2]? = some (.cells #[.int .u8 1, .int .i64 0, .int .i64 0, .string x1.f1] 43 (0, 0)) by rw [hww, hbb]; exact blk_new _ _)
            have Y2 := Aside0.mk (show g < b2 by rw [hbb]; exact K3.out.i.lt)
            replace X1 := Aside0.mk (blk_below X1.out (show Below w3.heap.size w3 w4 by rw [hww]; exact below_alloc (Below.refl _ _) _))
            rw [← hww, ← hbb]
            clear hww hbb
            have hp4 : w4.cell? ⟨b1, 0, none⟩ = some (.pointer (some ⟨g, 0, none⟩)) := (blk_cell X1.out 0).trans rfl
            go_upto_region 5 with (first | (go_at_call 84; (with_reducible refine (ks_must_t (⟨#[40]⟩ : ByteArray) K4.out HN2.out).mono ?_); rintro e w5 ⟨rfl, hk⟩; have K5 := Aside0.mk hk.k; replace X1 := Aside0.mk (hk.b.blk X1.out (by have := Y1.out; omega) (by simp)); replace X2 := Aside0.mk (hk.b.blk X2.out (by have := Y2.out; omega) (by simp)); have hp5 : w5.cell? ⟨b1, 0, none⟩ = some (.pointer (some ⟨g, 0, none⟩)) := (blk_cell X1.out 0).trans rfl; clear hk) | (go_at_call 86; (with_reducible refine (par_at X1.out (by have := Y1.out; omega) H9.out HL5.out (Keeps.refl K5.out.i K5.out.b)).mono ?_); rintro e w80 ⟨A80, c80, rfl, hs, hk⟩; have S80 := Aside0.mk hs; have K80 := Aside0.mk hk; clear hs hk))
            have HSK : Aside0 (∀ W' : World, KeepBut w5 W' g none → W'.cell? ⟨b1, 0, none⟩ = some (.pointer (some ⟨g, 0, none⟩)) ∧ W'.cell? ⟨b2, 0, none⟩ = some (.int .u8 1) ∧ W'.cell? ⟨b2, 1, none⟩ = some (.int .i64 0) ∧ W'.cell? ⟨b2, 2, none⟩ = some (.int .i64 0) ∧ W'.cell? ⟨b2, 3, none⟩ = some (.string x1.f1)) := ⟨fun W' hk => by have h1 := hk.blk X1.out (by have := Y1.out; omega) (by simp); have h := hk.blk X2.out (by have := Y2.out; omega) (by simp); exact ⟨(blk_cell h1 0).trans rfl, (blk_cell h 0).trans rfl, (blk_cell h 1).trans rfl, (blk_cell h 2).trans rfl, (blk_cell h 3).trans rfl⟩⟩
            have GD := Aside0.mk K5.out.i.lt
            have KD := Aside0.mk K80.out.drew
            have SD := Aside0.mk (S80.out.below (below_drew1 (Below.refl _ _)))
            go_region_held3 (fun W' => W'.cell? ⟨b1, 0, none⟩ = some (.pointer (some ⟨g, 0, none⟩)) ∧ W'.cell? ⟨b2, 0, none⟩ = some (.int .u8 1) ∧ W'.cell? ⟨b2, 1, none⟩ = some (.int .i64 0) ∧ W'.cell? ⟨b2, 2, none⟩ = some (.int .i64 0) ∧ W'.cell? ⟨b2, 3, none⟩ = some (.string x1.f1)) (first | exact HSK.out _ K80.out.k | exact HSK.out _ KD.out.k | exact HSK.out _ K90.out.k | exact HSK.out _ (keep_alloc K90.out.k _) | exact HSK.out _ (keep_drew (keep_alloc K90.out.k _)) | exact HSK.out _ K91.out.k | exact HSK.out _ K92.out.k) (first | (go_at_call 89; (with_reducible refine (ks_call HA.out.block_ H8.out HL9.out (Keeps.refl KD.out.i KD.out.b)).mono ?_); rintro e w90 ⟨A90, c90, rfl, ht, hk⟩; have Q90 := Aside0.mk (SD.out.call GD.out hk.b); have T90 := Aside0.mk ht.2; have U90 := Aside0.mk ht.1; have G90 := Aside0.mk hk.b.1; have K90 := Aside0.mk (KD.out.then_ hk.k); clear ht hk) | (go_at_call 88; refine (rd_of_row (ts := y) (A := A91) (c := c91) K91.out GD.out S91.out HY2.out).mono ?_; rintro e w92 ⟨A92, c92, rfl, ht, hk⟩; have T92 := Aside0.mk ht; have K92 := Aside0.mk hk; clear ht hk) | ((refine trees_append_step' (w := w5) (W := w90) (ts := ps) (t := t1) (A := A90) (c := c90) (v := .slice A80 ps.length c80) (B := w80.drew.heap.size) HY.out KD.out.grows G90.out rfl (.tmp 17) (.tmp 20) rfl rfl rfl Q90.out (by have := HP.out; omega) U90.out ?_; intro A91 c91 w91 hs hb; have S91 := Aside0.mk (show Sr w5 w91 _ y from ⟨hs, by have h := S80.out.snoc T90.out; rw [← HY.out] at h; exact h⟩); have K91 := Aside0.mk (K90.out.own GD.out hb); clear hs hb)))
            go_wp2
            go_ret
            exact PostR.ok_ (T92.out.lower K5.out.grows) (K5.out.then_ K92.out)
          · have H8 := Aside0.mk h2
            clear h2 hq
            go_enter Try.func59, Try.ntmps59
            go_upto_region 1 with (fail)
            obtain ⟨b1, hbb⟩ : ∃ b, b = w.heap.size := ⟨_, rfl⟩
            obtain ⟨w1, hww⟩ : ∃ W : World, W = w.alloc (.cells #[.pointer (some ⟨g, 0, none⟩)] 78 (0, 0)) := ⟨_, rfl⟩
            have K1 := Aside0.mk (show Keeps w0 w w1 g _ size _ by rw [hww]; exact K0.out.alloc _)
            have X1 := Aside0.mk (show w1.heap[b1]? = some (.cells #[.pointer (some ⟨g, 0, none⟩)] 78 (0, 0)) by rw [hww, hbb]; exact blk_new _ _)
            have Y1 := Aside0.mk (show g < b1 by rw [hbb]; exact K0.out.i.lt)
            rw [← hww, ← hbb]
            clear hww hbb
            have hp1 : w1.cell? ⟨b1, 0, none⟩ = some (.pointer (some ⟨g, 0, none⟩)) := (blk_cell X1.out 0).trans rfl
            go_upto_region 3 with (first | (go_at_call 84; (with_reducible refine (ks_must_t (⟨#[102, 108, 111, 119]⟩ : ByteArray) K1.out HN0.out).mono ?_); rintro e w2 ⟨rfl, hk⟩; have K2 := Aside0.mk hk.k; replace X1 := Aside0.mk (hk.b.blk X1.out (by have := Y1.out; omega) (by simp)); have hp2 : w2.cell? ⟨b1, 0, none⟩ = some (.pointer (some ⟨g, 0, none⟩)) := (blk_cell X1.out 0).trans rfl; clear hk) | (go_at_call 85; (with_reducible refine (ks_own_t K2.out HN1.out).mono ?_); rintro e w3 ⟨rfl, hk⟩; have K3 := Aside0.mk hk.k; replace X1 := Aside0.mk (hk.b.blk X1.out (by have := Y1.out; omega) (by simp)); have hp3 : w3.cell? ⟨b1, 0, none⟩ = some (.pointer (some ⟨g, 0, none⟩)) := (blk_cell X1.out 0).trans rfl; clear hk))
            obtain ⟨b2, hbb⟩ : ∃ b, b = w3.heap.size := ⟨_, rfl⟩
            obtain ⟨w4, hww⟩ : ∃ W : World, W = w3.alloc (.cells #[.int .u8 1, .int .i64 0, .int .i64 0, .string x1.f1] 43 (0, 0)) := ⟨_, rfl⟩
            have K4 := Aside0.mk (show Keeps w0 w w4 g _ size _ by rw [hww]; exact K3.out.alloc _)
            have X2 := Aside0.mk (show w4.heap[b2]? = some (.cells #[.int .u8 1, .int .i64 0, .int .i64 0, .string x1.f1] 43 (0, 0)) by rw [hww, hbb]; exact blk_new _ _)
            have Y2 := Aside0.mk (show g < b2 by rw [hbb]; exact K3.out.i.lt)
            replace X1 := Aside0.mk (blk_below X1.out (show Below w3.heap.size w3 w4 by rw [hww]; exact below_alloc (Below.refl _ _) _))
            rw [← hww, ← hbb]
            clear hww hbb
            have hp4 : w4.cell? ⟨b1, 0, none⟩ = some (.pointer (some ⟨g, 0, none⟩)) := (blk_cell X1.out 0).trans rfl
            go_upto_region 5 with (first | (go_at_call 84; (with_reducible refine (ks_must_t (⟨#[40]⟩ : ByteArray) K4.out HN2.out).mono ?_); rintro e w5 ⟨rfl, hk⟩; have K5 := Aside0.mk hk.k; replace X1 := Aside0.mk (hk.b.blk X1.out (by have := Y1.out; omega) (by simp)); replace X2 := Aside0.mk (hk.b.blk X2.out (by have := Y2.out; omega) (by simp)); have hp5 : w5.cell? ⟨b1, 0, none⟩ = some (.pointer (some ⟨g, 0, none⟩)) := (blk_cell X1.out 0).trans rfl; clear hk) | (go_at_call 86; (with_reducible refine (par_at X1.out (by have := Y1.out; omega) H9.out HL5.out (Keeps.refl K5.out.i K5.out.b)).mono ?_); rintro e w80 ⟨A80, c80, rfl, hs, hk⟩; have S80 := Aside0.mk hs; have K80 := Aside0.mk hk; clear hs hk))
            have HSK : Aside0 (∀ W' : World, KeepBut w5 W' g none → W'.cell? ⟨b1, 0, none⟩ = some (.pointer (some ⟨g, 0, none⟩)) ∧ W'.cell? ⟨b2, 0, none⟩ = some (.int .u8 1) ∧ W'.cell? ⟨b2, 1, none⟩ = some (.int .i64 0) ∧ W'.cell? ⟨b2, 2, none⟩ = some (.int .i64 0) ∧ W'.cell? ⟨b2, 3, none⟩ = some (.string x1.f1)) := ⟨fun W' hk => by have h1 := hk.blk X1.out (by have := Y1.out; omega) (by simp); have h := hk.blk X2.out (by have := Y2.out; omega) (by simp); exact ⟨(blk_cell h1 0).trans rfl, (blk_cell h 0).trans rfl, (blk_cell h 1).trans rfl, (blk_cell h 2).trans rfl, (blk_cell h 3).trans rfl⟩⟩
            have GD := Aside0.mk K5.out.i.lt
            have KD := Aside0.mk K80.out.drew
            have SD := Aside0.mk (S80.out.below (below_drew1 (Below.refl _ _)))
            obtain ⟨hcp, hc50, hc51, hc52, hc53⟩ := HSK.out _ K80.out.k
            go_region_held2 (fun W' => W'.cell? ⟨b1, 0, none⟩ = some (.pointer (some ⟨g, 0, none⟩)) ∧ W'.cell? ⟨b2, 0, none⟩ = some (.int .u8 1) ∧ W'.cell? ⟨b2, 1, none⟩ = some (.int .i64 0) ∧ W'.cell? ⟨b2, 2, none⟩ = some (.int .i64 0) ∧ W'.cell? ⟨b2, 3, none⟩ = some (.string x1.f1)) (first | exact HX.out.elim | exact HSK.out _ K80.out.k | exact HSK.out _ KD.out.k) (first | (go_at_call 89; refine calls_dies (c := faultC m8 size) (R := fun w' => Below w0.heap.size w0 w') (ks_call_bad HA.out.block_ H8.out HL9.out (Keeps.refl KD.out.i KD.out.b)) ?hp ?_; (case hp => intro w' h; exact ⟨rfl, rfl, h⟩); intro A90 n90 c90 w90 hF; have HX := Aside0.mk hF; have hxp : w90.cell? ⟨b1, 0, none⟩ = some (.pointer (some ⟨g, 0, none⟩)) := hF.elim; have hx0 : w90.cell? ⟨b2, 0, none⟩ = some (.int .u8 1) := hF.elim; have hx1 : w90.cell? ⟨b2, 1, none⟩ = some (.int .i64 0) := hF.elim; have hx2 : w90.cell? ⟨b2, 2, none⟩ = some (.int .i64 0) := hF.elim; have hx3 : w90.cell? ⟨b2, 3, none⟩ = some (.string x1.f1) := hF.elim; clear hF) | (go_at_call 88; revert HX; intro HX; refine calls_never HX.out ?_; intro A92 n92 c92 w92) | ((revert HX; intro HX; refine never_step HX.out ?_; intro A91 n91 m91 w91)))
            all_goals exact HX.out.elim
        · have H9 := Aside0.mk h1
          clear h1 hr
          go_enter Try.func59, Try.ntmps59
          go_upto_region 1 with (fail)
          obtain ⟨b1, hbb⟩ : ∃ b, b = w.heap.size := ⟨_, rfl⟩
          obtain ⟨w1, hww⟩ : ∃ W : World, W = w.alloc (.cells #[.pointer (some ⟨g, 0, none⟩)] 78 (0, 0)) := ⟨_, rfl⟩
          have K1 := Aside0.mk (show Keeps w0 w w1 g _ size _ by rw [hww]; exact K0.out.alloc _)
          have X1 := Aside0.mk (show w1.heap[b1]? = some (.cells #[.pointer (some ⟨g, 0, none⟩)] 78 (0, 0)) by rw [hww, hbb]; exact blk_new _ _)
          have Y1 := Aside0.mk (show g < b1 by rw [hbb]; exact K0.out.i.lt)
          rw [← hww, ← hbb]
          clear hww hbb
          have hp1 : w1.cell? ⟨b1, 0, none⟩ = some (.pointer (some ⟨g, 0, none⟩)) := (blk_cell X1.out 0).trans rfl
          go_upto_region 3 with (first | (go_at_call 84; (with_reducible refine (ks_must_t (⟨#[102, 108, 111, 119]⟩ : ByteArray) K1.out HN0.out).mono ?_); rintro e w2 ⟨rfl, hk⟩; have K2 := Aside0.mk hk.k; replace X1 := Aside0.mk (hk.b.blk X1.out (by have := Y1.out; omega) (by simp)); have hp2 : w2.cell? ⟨b1, 0, none⟩ = some (.pointer (some ⟨g, 0, none⟩)) := (blk_cell X1.out 0).trans rfl; clear hk) | (go_at_call 85; (with_reducible refine (ks_own_t K2.out HN1.out).mono ?_); rintro e w3 ⟨rfl, hk⟩; have K3 := Aside0.mk hk.k; replace X1 := Aside0.mk (hk.b.blk X1.out (by have := Y1.out; omega) (by simp)); have hp3 : w3.cell? ⟨b1, 0, none⟩ = some (.pointer (some ⟨g, 0, none⟩)) := (blk_cell X1.out 0).trans rfl; clear hk))
          obtain ⟨b2, hbb⟩ : ∃ b, b = w3.heap.size := ⟨_, rfl⟩
          obtain ⟨w4, hww⟩ : ∃ W : World, W = w3.alloc (.cells #[.int .u8 1, .int .i64 0, .int .i64 0, .string x1.f1] 43 (0, 0)) := ⟨_, rfl⟩
          have K4 := Aside0.mk (show Keeps w0 w w4 g _ size _ by rw [hww]; exact K3.out.alloc _)
          have X2 := Aside0.mk (show w4.heap[b2]? = some (.cells #[.int .u8 1, .int .i64 0, .int .i64 0, .string x1.f1] 43 (0, 0)) by rw [hww, hbb]; exact blk_new _ _)
          have Y2 := Aside0.mk (show g < b2 by rw [hbb]; exact K3.out.i.lt)
          replace X1 := Aside0.mk (blk_below X1.out (show Below w3.heap.size w3 w4 by rw [hww]; exact below_alloc (Below.refl _ _) _))
          rw [← hww, ← hbb]
          clear hww hbb
          have hp4 : w4.cell? ⟨b1, 0, none⟩ = some (.pointer (some ⟨g, 0, none⟩)) := (blk_cell X1.out 0).trans rfl
          go_wp2_with (first | (go_at_call 84; (with_reducible refine (ks_must_t (⟨#[40]⟩ : ByteArray) K4.out HN2.out).mono ?_); rintro e w5 ⟨rfl, hk⟩; have K5 := Aside0.mk hk.k; replace X1 := Aside0.mk (hk.b.blk X1.out (by have := Y1.out; omega) (by simp)); replace X2 := Aside0.mk (hk.b.blk X2.out (by have := Y2.out; omega) (by simp)); have hp5 : w5.cell? ⟨b1, 0, none⟩ = some (.pointer (some ⟨g, 0, none⟩)) := (blk_cell X1.out 0).trans rfl; clear hk) | (go_at_call 86; (with_reducible refine (par_at X1.out (by have := Y1.out; omega) H9.out HL5.out (Keeps.refl K5.out.i K5.out.b)).mono ?_); rintro e w' ⟨rfl, hb⟩))
          exact ⟨rfl, rfl, hb⟩
      · have HN2 := Aside0.mk hn
        clear hn
        go_enter Try.func59, Try.ntmps59
        go_upto_region 1 with (fail)
        obtain ⟨b1, hbb⟩ : ∃ b, b = w.heap.size := ⟨_, rfl⟩
        obtain ⟨w1, hww⟩ : ∃ W : World, W = w.alloc (.cells #[.pointer (some ⟨g, 0, none⟩)] 78 (0, 0)) := ⟨_, rfl⟩
        have K1 := Aside0.mk (show Keeps w0 w w1 g _ size _ by rw [hww]; exact K0.out.alloc _)
        have X1 := Aside0.mk (show w1.heap[b1]? = some (.cells #[.pointer (some ⟨g, 0, none⟩)] 78 (0, 0)) by rw [hww, hbb]; exact blk_new _ _)
        have Y1 := Aside0.mk (show g < b1 by rw [hbb]; exact K0.out.i.lt)
        rw [← hww, ← hbb]
        clear hww hbb
        have hp1 : w1.cell? ⟨b1, 0, none⟩ = some (.pointer (some ⟨g, 0, none⟩)) := (blk_cell X1.out 0).trans rfl
        go_upto_region 3 with (first | (go_at_call 84; (with_reducible refine (ks_must_t (⟨#[102, 108, 111, 119]⟩ : ByteArray) K1.out HN0.out).mono ?_); rintro e w2 ⟨rfl, hk⟩; have K2 := Aside0.mk hk.k; replace X1 := Aside0.mk (hk.b.blk X1.out (by have := Y1.out; omega) (by simp)); have hp2 : w2.cell? ⟨b1, 0, none⟩ = some (.pointer (some ⟨g, 0, none⟩)) := (blk_cell X1.out 0).trans rfl; clear hk) | (go_at_call 85; (with_reducible refine (ks_own_t K2.out HN1.out).mono ?_); rintro e w3 ⟨rfl, hk⟩; have K3 := Aside0.mk hk.k; replace X1 := Aside0.mk (hk.b.blk X1.out (by have := Y1.out; omega) (by simp)); have hp3 : w3.cell? ⟨b1, 0, none⟩ = some (.pointer (some ⟨g, 0, none⟩)) := (blk_cell X1.out 0).trans rfl; clear hk))
        obtain ⟨b2, hbb⟩ : ∃ b, b = w3.heap.size := ⟨_, rfl⟩
        obtain ⟨w4, hww⟩ : ∃ W : World, W = w3.alloc (.cells #[.int .u8 1, .int .i64 0, .int .i64 0, .string x1.f1] 43 (0, 0)) := ⟨_, rfl⟩
        have K4 := Aside0.mk (show Keeps w0 w w4 g _ size _ by rw [hww]; exact K3.out.alloc _)
        have X2 := Aside0.mk (show w4.heap[b2]? = some (.cells #[.int .u8 1, .int .i64 0, .int .i64 0, .string x1.f1] 43 (0, 0)) by rw [hww, hbb]; exact blk_new _ _)
        have Y2 := Aside0.mk (show g < b2 by rw [hbb]; exact K3.out.i.lt)
        replace X1 := Aside0.mk (blk_below X1.out (show Below w3.heap.size w3 w4 by rw [hww]; exact below_alloc (Below.refl _ _) _))
        rw [← hww, ← hbb]
        clear hww hbb
        have hp4 : w4.cell? ⟨b1, 0, none⟩ = some (.pointer (some ⟨g, 0, none⟩)) := (blk_cell X1.out 0).trans rfl
        go_wp2_with (first | (go_at_call 84; (with_reducible refine (ks_must_f (⟨#[40]⟩ : ByteArray) K4.out HN2.out).mono ?_); rintro e w' ⟨rfl, hb⟩))
        exact ⟨rfl, rfl, hb⟩
    · have HN1 := Aside0.mk hn
      clear hn
      go_enter Try.func59, Try.ntmps59
      go_upto_region 1 with (fail)
      obtain ⟨b1, hbb⟩ : ∃ b, b = w.heap.size := ⟨_, rfl⟩
      obtain ⟨w1, hww⟩ : ∃ W : World, W = w.alloc (.cells #[.pointer (some ⟨g, 0, none⟩)] 78 (0, 0)) := ⟨_, rfl⟩
      have K1 := Aside0.mk (show Keeps w0 w w1 g _ size _ by rw [hww]; exact K0.out.alloc _)
      have X1 := Aside0.mk (show w1.heap[b1]? = some (.cells #[.pointer (some ⟨g, 0, none⟩)] 78 (0, 0)) by rw [hww, hbb]; exact blk_new _ _)
      have Y1 := Aside0.mk (show g < b1 by rw [hbb]; exact K0.out.i.lt)
      rw [← hww, ← hbb]
      clear hww hbb
      have hp1 : w1.cell? ⟨b1, 0, none⟩ = some (.pointer (some ⟨g, 0, none⟩)) := (blk_cell X1.out 0).trans rfl
      go_wp2_with (first | (go_at_call 84; (with_reducible refine (ks_must_t (⟨#[102, 108, 111, 119]⟩ : ByteArray) K1.out HN0.out).mono ?_); rintro e w2 ⟨rfl, hk⟩; have K2 := Aside0.mk hk.k; replace X1 := Aside0.mk (hk.b.blk X1.out (by have := Y1.out; omega) (by simp)); have hp2 : w2.cell? ⟨b1, 0, none⟩ = some (.pointer (some ⟨g, 0, none⟩)) := (blk_cell X1.out 0).trans rfl; clear hk) | (go_at_call 85; (with_reducible refine (ks_own_f K2.out HN1.out).mono ?_); rintro e w' ⟨rfl, hb⟩))
      exact ⟨rfl, rfl, hb⟩
  · have HN0 := Aside0.mk hn
    clear hn
    go_enter Try.func59, Try.ntmps59
    go_upto_region 1 with (fail)
    obtain ⟨b1, hbb⟩ : ∃ b, b = w.heap.size := ⟨_, rfl⟩
    obtain ⟨w1, hww⟩ : ∃ W : World, W = w.alloc (.cells #[.pointer (some ⟨g, 0, none⟩)] 78 (0, 0)) := ⟨_, rfl⟩
    have K1 := Aside0.mk (show Keeps w0 w w1 g _ size _ by rw [hww]; exact K0.out.alloc _)
    have X1 := Aside0.mk (show w1.heap[b1]? = some (.cells #[.pointer (some ⟨g, 0, none⟩)] 78 (0, 0)) by rw [hww, hbb]; exact blk_new _ _)
    have Y1 := Aside0.mk (show g < b1 by rw [hbb]; exact K0.out.i.lt)
    rw [← hww, ← hbb]
    clear hww hbb
    have hp1 : w1.cell? ⟨b1, 0, none⟩ = some (.pointer (some ⟨g, 0, none⟩)) := (blk_cell X1.out 0).trans rfl
    go_wp2_with (first | (go_at_call 84; (with_reducible refine (ks_must_f (⟨#[102, 108, 111, 119]⟩ : ByteArray) K1.out HN0.out).mono ?_); rintro e w' ⟨rfl, hb⟩))
    exact ⟨rfl, rfl, hb⟩
end Go.Proofs.Ytlbchdalimngjaa.P
namespace Go.Proofs.Ytlbchdalimngjaa.P
open Go.RowKit Go.Proofs.YtlbchdalimngjaaW.PrintWords Go.Proofs.YtlbchdalimngjaaW.PrintLast Go.Proofs.YtlbchdalimngjaaW.PrintMore
set_option linter.unusedVariables false
set_option linter.unusedSimpArgs false
set_option maxHeartbeats 4000000 in
set_option maxRecDepth 100000 in
theorem catch_idle (p q r : Addr) (w : World) :
    CallsD Try.prog 78 #[.pointer (some p), .pointer (some q), .pointer (some r)] .returning w fun e u' w' => e = .returned (.tuple #[]) ∧ u' = .returning ∧ w' = w := by
  refine callsD_of_wpS Try.func78 rfl fun c₀ cs hu => ?_
  apply wpS_seq
  apply wpS_region
  simp [wpOpsS, go_sem, recoverD, hu, Try.ntmps78, Exit.thenS]
  apply wpS_seq
  apply wpS_region
  simp [wpOpsS, go_sem, Exit.thenS]
  refine wpS_cond (t := false) (by simp [Act.eval, Array.replicate]) ?_
  simp only [Bool.false_eq_true, if_false]
  refine wpS_of_wp (wp_skip ?_)
  cases c₀
  simp_all [bodyPostS, results, Try.results78]
set_option maxHeartbeats 4000000 in
set_option maxRecDepth 100000 in
theorem catch_pan {n b4 b5 b6 : Nat} {v4 v5 v6 : Value} {T5 T6 : TypeId} (a e : Int) (older : List PanicEntry) (w : World) (h4 : n ≤ b4) (h5 : n ≤ b5) (h6 : n ≤ b6) (d1 : b4 ≠ b5) (d2 : b4 ≠ b6) (d3 : b5 ≠ b6)
    (c4 : w.heap[b4]? = some (.cells #[v4] 36 (0, 0))) (c5 : w.heap[b5]? = some (.cells #[v5] T5 (0, 0))) (c6 : w.heap[b6]? = some (.cells #[v6] T6 (0, 0))) :
    CallsD Try.prog 78 #[.pointer (some ⟨b4, 0, none⟩), .pointer (some ⟨b5, 0, none⟩), .pointer (some ⟨b6, 0, none⟩)] (.panicking ({ v := .iface 88 (.agg #[.int .i64 a, .int .i64 e]), recovered := false } :: older)) w fun en u' w' => en = .returned (.tuple #[]) ∧ u' = .panicking ({ v := .iface 88 (.agg #[.int .i64 a, .int .i64 e]), recovered := true } :: older) ∧
      w'.cell? ⟨b4, 0, none⟩ = some (.slice none 0 0) ∧ w'.cell? ⟨b5, 0, none⟩ = some (.int .i64 a) ∧ w'.cell? ⟨b6, 0, none⟩ = some (.int .i64 e) ∧ Below n w w' := by
  refine callsD_of_wpS Try.func78 rfl fun c₀ cs hu => ?_
  apply wpS_seq
  apply wpS_region
  simp [wpOpsS, go_sem, recoverD, hu, Try.ntmps78, Exit.thenS]
  apply wpS_seq
  apply wpS_region
  simp [wpOpsS, go_sem, Exit.thenS]
  refine wpS_cond (t := true) (by simp [Act.eval, Array.replicate]) ?_
  simp only [if_true]
  refine wpS_of_wp ?_
  have hta : ∀ (v : Value) (W : World), (Instr.typeAssert (.iface 88 v) 20 88 true).run Try.prog W = .ok (.tuple #[v, .bool true]) W := by
    intro v W
    simp [Instr.typeAssert, run_underlying Try.underlying88, go_sem, Result.andThen]
  change Code.wp _ _ _ ⟨#[.pointer (some ⟨b4, 0, none⟩), .pointer (some ⟨b5, 0, none⟩), .pointer (some ⟨b6, 0, none⟩), .iface 88 (.agg #[.int .i64 a, .int .i64 e]), undef, undef, .iface 88 (.agg #[.int .i64 a, .int .i64 e]), .iface 88 (.agg #[.int .i64 a, .int .i64 e]), .bool true, undef, undef, undef, undef, undef, undef, undef, undef, undef, undef, undef, undef], []⟩ w
  go_upto_region 5 with (fail)
  obtain ⟨bt, hbt⟩ : ∃ b, b = w.heap.size := ⟨_, rfl⟩
  obtain ⟨w1, hw1⟩ : ∃ W : World, W = w.alloc (.cells #[.int .i64 a, .int .i64 e] 88 (0, 0)) := ⟨_, rfl⟩
  have hb1 : Below w.heap.size w w1 := by rw [hw1]; exact below_alloc (Below.refl _ _) _
  have X : w1.heap[bt]? = some (.cells #[.int .i64 a, .int .i64 e] 88 (0, 0)) := by rw [hw1, hbt]; exact blk_new _ _
  have e4 : bt ≠ b4 := by have := blk_lt c4; omega
  have e5 : bt ≠ b5 := by have := blk_lt c5; omega
  have e6 : bt ≠ b6 := by have := blk_lt c6; omega
  rw [← hw1, ← hbt]
  have C4 := Aside0.mk (blk_below c4 hb1)
  have C5 := Aside0.mk (blk_below c5 hb1)
  have C6 := Aside0.mk (blk_below c6 hb1)
  have HB := Aside0.mk (show Below n w w1 by rw [hw1]; exact (Below.refl n w).alloc (by have := blk_lt c4; omega) _)
  have HH := Aside0.mk (And.intro h4 (And.intro h5 h6))
  have y0 : w1.cell? ⟨bt, 0, none⟩ = some (.int .i64 a) := (blk_cell X 0).trans rfl
  have y1 : w1.cell? ⟨bt, 1, none⟩ = some (.int .i64 e) := (blk_cell X 1).trans rfl
  clear c4 c5 c6 hb1 hw1 hbt X h4 h5 h6
  have D4 := C4.out
  have D5 := C5.out
  have D6 := C6.out
  have hx4 : w1.cell? ⟨b4, 0, none⟩ = some v4 := (blk_cell D4 0).trans rfl
  have hx5 : w1.cell? ⟨b5, 0, none⟩ = some v5 := (blk_cell D5 0).trans rfl
  have hx6 : w1.cell? ⟨b6, 0, none⟩ = some v6 := (blk_cell D6 0).trans rfl
  have hf4 := blk_frozen D4 0
  have hf5 := blk_frozen D5 0
  have hf6 := blk_frozen D6 0
  have G4 := Aside0.mk (blk_far (blk_far (blk_set D4 0 (.slice none 0 0)) (p := ⟨b5, 0, none⟩) d1 (.int .i64 a)) (p := ⟨b6, 0, none⟩) d2 (.int .i64 e))
  have G5 := Aside0.mk (blk_far (blk_set (blk_far D5 (p := ⟨b4, 0, none⟩) (Ne.symm d1) (.slice none 0 0)) 0 (.int .i64 a)) (p := ⟨b6, 0, none⟩) d3 (.int .i64 e))
  have G6 := Aside0.mk (blk_set (blk_far (blk_far D6 (p := ⟨b4, 0, none⟩) (Ne.symm d2) (.slice none 0 0)) (p := ⟨b5, 0, none⟩) (Ne.symm d3) (.int .i64 a)) 0 (.int .i64 e))
  have GB := Aside0.mk (show Below n w (((w1.setCell ⟨b4, 0, none⟩ (.slice none 0 0)).setCell ⟨b5, 0, none⟩ (.int .i64 a)).setCell ⟨b6, 0, none⟩ (.int .i64 e)) from ((HB.out.setCell (p := ⟨b4, 0, none⟩) HH.out.1 _).setCell (p := ⟨b5, 0, none⟩) HH.out.2.1 _).setCell (p := ⟨b6, 0, none⟩) HH.out.2.2 _)
  clear D4 D5 D6
  go_region
  generalize hw3 : ((w1.setCell ⟨b4, 0, none⟩ (.slice none 0 0)).setCell ⟨b5, 0, none⟩ (.int .i64 a)).setCell ⟨b6, 0, none⟩ (.int .i64 e) = w2
  have hd : Below w2.heap.size w2 w2.drew := below_drew1 (Below.refl _ _)
  generalize hw4 : w2.drew = w3
  rw [hw4] at hd
  have F4 : w3.cell? ⟨b4, 0, none⟩ = some (.slice none 0 0) := (blk_cell (blk_below (by rw [← hw3]; exact G4.out) hd) 0).trans rfl
  have F5 : w3.cell? ⟨b5, 0, none⟩ = some (.int .i64 a) := (blk_cell (blk_below (by rw [← hw3]; exact G5.out) hd) 0).trans rfl
  have F6 : w3.cell? ⟨b6, 0, none⟩ = some (.int .i64 e) := (blk_cell (blk_below (by rw [← hw3]; exact G6.out) hd) 0).trans rfl
  have FB : Below n w w3 := by rw [← hw4, ← hw3]; exact below_drew1 GB.out
  clear hw3 hw4 hd G4 G5 G6 GB hx4 hx5 hx6 hf4 hf5 hf6 HB C4 C5 C6 y0 y1
  change bodyPostS _ _ _ _ _ _ _ _ _
  cases c₀
  simp_all [bodyPostS, results, Try.results78]
end Go.Proofs.Ytlbchdalimngjaa.P
namespace Go.Proofs.Ytlbchdalimngjaa.P
open Go.RowKit Go.Proofs.YtlbchdalimngjaaW.PrintWords Go.Proofs.YtlbchdalimngjaaW.PrintLast Go.Proofs.YtlbchdalimngjaaW.PrintMore
attribute [local go_sem] max2_int min2_int max_two min_two max_three min_three max_four min_four
set_option linter.unusedVariables false
set_option linter.unusedSimpArgs false
def token_letter.f (a0 : Int) : Option (Bool) := if a0 ≥ 97 then (some (decide (a0 ≤ 122))) else (some false)
set_option maxHeartbeats 8000000 in
set_option maxRecDepth 100000 in
theorem token_letter.calls (a0 : Int) (r : Bool) (w : World) (h : token_letter.f a0 = some r) :
    Calls Try.prog 39 #[.int .u8 a0] w fun e w' => e = .returned (.bool r) ∧ Drawn0 w w' := by
  have H : (if a0 ≥ 97 then (some (decide (a0 ≤ 122))) else (some false)) = some r := h
  clear h
  by_cases c2 : a0 ≥ 97
  · rw [if_pos c2] at H
    have c2b0 : decide (97 ≤ a0) = true := decide_eq_true c2
    clear c2
    obtain rfl := Option.some.inj H
    go_enter Try.func39, Try.ntmps39
    go_wp2
    go_ret
    exact ⟨by first | rfl | (simp; done) | (simp [*]; done), by repeat (first | exact Drawn0.refl _ | apply Drawn0.step)⟩
  · rw [if_neg c2] at H
    have c2b0 : decide (97 ≤ a0) = false := decide_eq_false c2
    clear c2
    obtain rfl := Option.some.inj H
    go_enter Try.func39, Try.ntmps39
    go_wp2
    go_ret
    exact ⟨by first | rfl | (simp; done) | (simp [*]; done), by repeat (first | exact Drawn0.refl _ | apply Drawn0.step)⟩
def token_digit.f (a0 : Int) : Option (Bool) := if a0 ≥ 48 then (some (decide (a0 ≤ 57))) else (some false)
set_option maxHeartbeats 8000000 in
set_option maxRecDepth 100000 in
theorem token_digit.calls (a0 : Int) (r : Bool) (w : World) (h : token_digit.f a0 = some r) :
    Calls Try.prog 41 #[.int .u8 a0] w fun e w' => e = .returned (.bool r) ∧ Drawn0 w w' := by
  have H : (if a0 ≥ 48 then (some (decide (a0 ≤ 57))) else (some false)) = some r := h
  clear h
  by_cases c2 : a0 ≥ 48
  · rw [if_pos c2] at H
    have c2b0 : decide (48 ≤ a0) = true := decide_eq_true c2
    clear c2
    obtain rfl := Option.some.inj H
    go_enter Try.func41, Try.ntmps41
    go_wp2
    go_ret
    exact ⟨by first | rfl | (simp; done) | (simp [*]; done), by repeat (first | exact Drawn0.refl _ | apply Drawn0.step)⟩
  · rw [if_neg c2] at H
    have c2b0 : decide (48 ≤ a0) = false := decide_eq_false c2
    clear c2
    obtain rfl := Option.some.inj H
    go_enter Try.func41, Try.ntmps41
    go_wp2
    go_ret
    exact ⟨by first | rfl | (simp; done) | (simp [*]; done), by repeat (first | exact Drawn0.refl _ | apply Drawn0.step)⟩
def token_inner.f (a0 : Int) : Option (Bool) := (token_letter.f a0).bind fun t101 => (if t101 = true then (some true) else ((token_digit.f a0).bind fun t102 => (if t102 = true then (some true) else (some (a0 == 95)))))
set_option maxHeartbeats 8000000 in
set_option maxRecDepth 100000 in
theorem token_inner.calls (a0 : Int) (r : Bool) (w : World) (h : token_inner.f a0 = some r) :
    Calls Try.prog 40 #[.int .u8 a0] w fun e w' => e = .returned (.bool r) ∧ Drawn0 w w' := by
  have H : ((token_letter.f a0).bind fun t101 => (if t101 = true then (some true) else ((token_digit.f a0).bind fun t102 => (if t102 = true then (some true) else (some (a0 == 95)))))) = some r := h
  clear h
  replace H := Option.bind_eq_some_iff.mp H
  obtain ⟨t101, A20, H⟩ := H
  replace H : (if t101 = true then (some true) else ((token_digit.f a0).bind fun t102 => (if t102 = true then (some true) else (some (a0 == 95))))) = some r := H
  have A2 := Aside0.mk A20
  clear A20
  by_cases c3 : t101 = true
  · subst c3
    have H1 : (some true) = some r := by rw [if_pos rfl] at H; exact H
    clear H
    have H := H1
    clear H1
    obtain rfl := Option.some.inj H
    go_enter Try.func40, Try.ntmps40
    go_wp2_with (first | ((with_reducible refine gate_callee (f := 39) rfl ?_); refine goesL_ (some 4) rfl rfl Try.func39 (by kernel_rfl) rfl #[.int .u8 a0] rfl (by (try simp only [List.map_toArray, List.map_cons, List.map_nil]); first | done | rfl | (simp only [List.length_drop, List.length_take]; rfl)) ?_; (with_reducible refine (token_letter.calls a0 true _ A2.out).mono ?_); rintro e w' ⟨rfl, ⟨nd, rfl⟩⟩; refine ⟨_, rfl, ?_⟩))
    go_ret
    exact ⟨by first | rfl | (simp; done) | (simp [*]; done), by repeat (first | exact Drawn0.refl _ | apply Drawn0.step)⟩
  · replace c3 := Bool.eq_false_iff.mpr c3
    subst c3
    have H1 : ((token_digit.f a0).bind fun t102 => (if t102 = true then (some true) else (some (a0 == 95)))) = some r := by rw [if_neg (show ¬ (false = true) by decide)] at H; exact H
    clear H
    have H := H1
    clear H1
    replace H := Option.bind_eq_some_iff.mp H
    obtain ⟨t102, A40, H⟩ := H
    replace H : (if t102 = true then (some true) else (some (a0 == 95))) = some r := H
    have A4 := Aside0.mk A40
    clear A40
    by_cases c5 : t102 = true
    · subst c5
      have H1 : (some true) = some r := by rw [if_pos rfl] at H; exact H
      clear H
      have H := H1
      clear H1
      obtain rfl := Option.some.inj H
      go_enter Try.func40, Try.ntmps40
      go_wp2_with (first | ((with_reducible refine gate_callee (f := 39) rfl ?_); refine goesL_ (some 4) rfl rfl Try.func39 (by kernel_rfl) rfl #[.int .u8 a0] rfl (by (try simp only [List.map_toArray, List.map_cons, List.map_nil]); first | done | rfl | (simp only [List.length_drop, List.length_take]; rfl)) ?_; (with_reducible refine (token_letter.calls a0 false _ A2.out).mono ?_); rintro e w' ⟨rfl, ⟨nd, rfl⟩⟩; refine ⟨_, rfl, ?_⟩) | (go_at_call 41; (with_reducible refine (token_digit.calls a0 true _ A4.out).mono ?_); rintro e w' ⟨rfl, ⟨nd, rfl⟩⟩))
      go_ret
      exact ⟨by first | rfl | (simp; done) | (simp [*]; done), by repeat (first | exact Drawn0.refl _ | apply Drawn0.step)⟩
    · replace c5 := Bool.eq_false_iff.mpr c5
      subst c5
      have H1 : (some (a0 == 95)) = some r := by rw [if_neg (show ¬ (false = true) by decide)] at H; exact H
      clear H
      have H := H1
      clear H1
      obtain rfl := Option.some.inj H
      go_enter Try.func40, Try.ntmps40
      go_wp2_with (first | ((with_reducible refine gate_callee (f := 39) rfl ?_); refine goesL_ (some 4) rfl rfl Try.func39 (by kernel_rfl) rfl #[.int .u8 a0] rfl (by (try simp only [List.map_toArray, List.map_cons, List.map_nil]); first | done | rfl | (simp only [List.length_drop, List.length_take]; rfl)) ?_; (with_reducible refine (token_letter.calls a0 false _ A2.out).mono ?_); rintro e w' ⟨rfl, ⟨nd, rfl⟩⟩; refine ⟨_, rfl, ?_⟩) | (go_at_call 41; (with_reducible refine (token_digit.calls a0 false _ A4.out).mono ?_); rintro e w' ⟨rfl, ⟨nd, rfl⟩⟩))
      go_ret
      exact ⟨by first | rfl | (simp; done) | (simp [*]; done), by repeat (first | exact Drawn0.refl _ | apply Drawn0.step)⟩
mutual
def token_number.l0 : Nat → ByteArray → Int → Int → Int → Option (Int × Int × Int × Int)
  | 0, _, _, _, _ => none
  | k + 1, x0, x1, x8, x9 => if x9 < (x0.size : Int) then (if 0 ≤ x9 then ((token_digit.f (bt x0 x9)).bind fun t103 => (token_number.j1 k x0 x1 x8 x9 t103)) else (none)) else (token_number.j1 k x0 x1 x8 x9 false)
def token_number.j1 : Nat → ByteArray → Int → Int → Int → Bool → Option (Int × Int × Int × Int)
  | 0, _, _, _, _, _ => none
  | k + 1, x0, x1, x8, x9, x21 => if x21 = true then (if 0 ≤ x9 then (if x9 < (x0.size : Int) then (if x9 = (wrap64 (x1 + 1)) then (if 0 ≤ x1 then (if x1 < (x0.size : Int) then (token_number.j2 k x0 x1 x8 x9 (((bt x0 x9) - 48) % 256) ((bt x0 x1) == 48)) else (none)) else (none)) else (token_number.j2 k x0 x1 x8 x9 (((bt x0 x9) - 48) % 256) false)) else (none)) else (none)) else (if x9 < (x0.size : Int) then (if 0 ≤ x9 then ((token_inner.f (bt x0 x9)).bind fun t104 => (if t104 = true then (some (0, 0, x9, 9)) else (some (wrap64 (x8), x9, 0, 0)))) else (none)) else (some (wrap64 (x8), x9, 0, 0)))
def token_number.j2 : Nat → ByteArray → Int → Int → Int → Int → Bool → Option (Int × Int × Int × Int)
  | 0, _, _, _, _, _, _ => none
  | k + 1, x0, x1, x8, x9, x10, x36 => if x36 = true then (some (0, 0, x9, 9)) else (if x8 > ((9223372036854775807 - x10) / 10) then (some (0, 0, x1, 2)) else (token_number.l0 k x0 x1 (IntKind.u64.wrap ((IntKind.u64.wrap (10 * x8)) + x10)) (wrap64 (x9 + 1))))
end
def token_number.f (k : Nat) (a0 : ByteArray) (a1 : Int) : Option (Int × Int × Int × Int) := token_number.l0 k a0 a1 0 a1
theorem token_number.mono_l : ∀ k, (∀ y0 y1 y2 y3, LeO (token_number.l0 k y0 y1 y2 y3) (token_number.l0 (k + 1) y0 y1 y2 y3)) ∧ (∀ y0 y1 y2 y3 y4, LeO (token_number.j1 k y0 y1 y2 y3 y4) (token_number.j1 (k + 1) y0 y1 y2 y3 y4)) ∧ (∀ y0 y1 y2 y3 y4 y5, LeO (token_number.j2 k y0 y1 y2 y3 y4 y5) (token_number.j2 (k + 1) y0 y1 y2 y3 y4 y5))
  | 0 => ⟨fun _ _ _ _ r h => by simp [token_number.l0] at h, fun _ _ _ _ _ r h => by simp [token_number.j1] at h, fun _ _ _ _ _ _ r h => by simp [token_number.j2] at h⟩
  | k + 1 => by
    obtain ⟨ih0, ih1, ih2⟩ := token_number.mono_l k
    refine ⟨?_, ?_, ?_⟩
    · intro y0 y1 y2 y3
      unfold token_number.l0
      repeat' first
      | (with_reducible exact ih0 _ _ _ _)
      | (with_reducible exact ih1 _ _ _ _ _)
      | (with_reducible exact ih2 _ _ _ _ _ _)
      | (with_reducible exact LeO.refl _)
      | (with_reducible exact LeO.none _)
      | (with_reducible refine LeO.ite ?_ ?_)
      | (with_reducible refine LeO.bind ?_ (fun _ => ?_))
      | exact ih0 _ _ _ _
      | exact ih1 _ _ _ _ _
      | exact ih2 _ _ _ _ _ _
      | exact LeO.none _
      | refine LeO.ite ?_ ?_
      | refine LeO.bind ?_ (fun _ => ?_)
    · intro y0 y1 y2 y3 y4
      unfold token_number.j1
      repeat' first
      | (with_reducible exact ih0 _ _ _ _)
      | (with_reducible exact ih1 _ _ _ _ _)
      | (with_reducible exact ih2 _ _ _ _ _ _)
      | (with_reducible exact LeO.refl _)
      | (with_reducible exact LeO.none _)
      | (with_reducible refine LeO.ite ?_ ?_)
      | (with_reducible refine LeO.bind ?_ (fun _ => ?_))
      | exact ih0 _ _ _ _
      | exact ih1 _ _ _ _ _
      | exact ih2 _ _ _ _ _ _
      | exact LeO.none _
      | refine LeO.ite ?_ ?_
      | refine LeO.bind ?_ (fun _ => ?_)
    · intro y0 y1 y2 y3 y4 y5
      unfold token_number.j2
      repeat' first
      | (with_reducible exact ih0 _ _ _ _)
      | (with_reducible exact ih1 _ _ _ _ _)
      | (with_reducible exact ih2 _ _ _ _ _ _)
      | (with_reducible exact LeO.refl _)
      | (with_reducible exact LeO.none _)
      | (with_reducible refine LeO.ite ?_ ?_)
      | (with_reducible refine LeO.bind ?_ (fun _ => ?_))
      | exact ih0 _ _ _ _
      | exact ih1 _ _ _ _ _
      | exact ih2 _ _ _ _ _ _
      | exact LeO.none _
      | refine LeO.ite ?_ ?_
      | refine LeO.bind ?_ (fun _ => ?_)
theorem token_number.mono : ∀ a0 a1 k, LeO (token_number.f k a0 a1) (token_number.f (k + 1) a0 a1) := by
  intro a0 a1 k
  obtain ⟨ih0, ih1, ih2⟩ := token_number.mono_l k
  unfold token_number.f
  repeat' first
      | (with_reducible exact ih0 _ _ _ _)
      | (with_reducible exact ih1 _ _ _ _ _)
      | (with_reducible exact ih2 _ _ _ _ _ _)
      | (with_reducible exact LeO.refl _)
      | (with_reducible exact LeO.none _)
      | (with_reducible refine LeO.ite ?_ ?_)
      | (with_reducible refine LeO.bind ?_ (fun _ => ?_))
      | exact ih0 _ _ _ _
      | exact ih1 _ _ _ _ _
      | exact ih2 _ _ _ _ _ _
      | exact LeO.none _
      | refine LeO.ite ?_ ?_
      | refine LeO.bind ?_ (fun _ => ?_)
set_option maxHeartbeats 8000000 in
set_option maxRecDepth 100000 in
theorem token_number.calls (k : Nat) (a0 : ByteArray) (a1 : Int) (r1 : Int) (r2 : Int) (r3 : Int) (r4 : Int) (w : World) (h : token_number.f k a0 a1 = some (r1, r2, r3, r4)) :
    Calls Try.prog 42 #[.string a0, .int .i64 a1] w fun e w' => e = .returned (.tuple #[.int .i64 r1, .int .i64 r2, .int .i64 r3, .int .i64 r4]) ∧ Drawn0 w w' := by
  have H : (token_number.l0 k a0 a1 0 a1) = some (r1, r2, r3, r4) := h
  clear h
  have H' := Aside0.mk H
  clear H
  go_enter Try.func42, Try.ntmps42
  go_wp2
  go_loopg [8, 9] k (fun kq v8 v9 w' => ∃ (x8_1 : Int) (x9_1 : Int), v8 = .int .u64 x8_1 ∧ v9 = .int .i64 x9_1 ∧ Aside0 (token_number.l0 kq a0 a1 x8_1 x9_1 = some (r1, r2, r3, r4)) ∧ Aside0 (kq ≤ k) ∧ Drawn0 w w')
  case atStart => exact ⟨(0), (a1), (by first | rfl | (simp; done) | (simp [*]; done)), (by first | rfl | (simp; done) | (simp [*]; done)), H', ⟨Nat.le_refl _⟩, by repeat (first | exact Drawn0.refl _ | apply Drawn0.step)⟩
  case round =>
    clear H'
    try clear p2
    obtain ⟨x8_1, x9_1, rfl, rfl, HA, HK1, ⟨m1, rfl⟩⟩ := hrel
    cases gk with
    | zero => exact absurd HA.out (by simp [token_number.l0])
    | succ k1 =>
      have H := HA.out
      clear HA
      simp only [token_number.l0] at H
      have HC3 := Aside0.mk H
      clear H
      go_upto_region 3 with (fail)
      go_cut [21] (fun v21 wc => ∃ (kq : Nat) (x21_2 : Bool), v21 = .bool x21_2 ∧ Aside0 (token_number.j1 kq a0 a1 x8_1 x9_1 x21_2 = some (r1, r2, r3, r4)) ∧ Aside0 (kq ≤ k1) ∧ Drawn0 w wc)
      case first =>
        have H := HC3.out
        clear HC3
        by_cases c4 : x9_1 < (a0.size : Int)
        · rw [if_pos c4] at H
          have c4b0 : decide (x9_1 < (a0.size : Int)) = true := decide_eq_true c4
          clear c4
          (first | rw [c4b0] | (simp only [i64_w, i32_w]; rw [c4b0]) | rw [c4b1] | skip)
          by_cases c5 : 0 ≤ x9_1
          · rw [if_pos c5] at H
            have c5b0 : decide (0 ≤ x9_1) = true := decide_eq_true c5
            clear c5
            replace H := Option.bind_eq_some_iff.mp H
            obtain ⟨t103, A70, H⟩ := H
            replace H : (token_number.j1 k1 a0 a1 x8_1 x9_1 t103) = some (r1, r2, r3, r4) := H
            have A7 := Aside0.mk A70
            clear A70
            have H' := Aside0.mk H
            clear H
            have p6 : 0 ≤ (x9_1 : Int) := of_decide_eq_true (by first | (with_reducible assumption) | assumption)
            have q6 : x9_1 < (a0.size : Int) := of_decide_eq_true (by first | (with_reducible assumption) | assumption)
            have hx6 := bt_at a0 x9_1
            replace p6 := eq_true p6
            replace q6 := eq_true q6
            go_wp2_with (first | (go_at_call 41; (with_reducible refine (token_digit.calls (bt a0 x9_1) t103 _ A7.out).mono ?_); rintro e w' ⟨rfl, ⟨nd, rfl⟩⟩))
            go_meet
            case rel => exact ⟨_, (t103), (by first | rfl | (simp; done) | (simp [*]; done)), H', ⟨by have := HK1.out; first | omega | exact Nat.le_refl _⟩, by repeat (first | exact Drawn0.refl _ | apply Drawn0.step)⟩
          · rw [if_neg c5] at H
            exact absurd H (by simp)
        · rw [if_neg c4] at H
          have c4b0 : decide (x9_1 < (a0.size : Int)) = false := decide_eq_false c4
          clear c4
          (first | rw [c4b0] | (simp only [i64_w, i32_w]; rw [c4b0]) | rw [c4b1] | skip)
          have H' := Aside0.mk H
          clear H
          go_wp2
          go_meet
          case rel => exact ⟨_, (false), (by first | rfl | (simp; done) | (simp [*]; done)), H', ⟨by have := HK1.out; first | omega | exact Nat.le_refl _⟩, by repeat (first | exact Drawn0.refl _ | apply Drawn0.step)⟩
      case rest =>
        clear HC3
        try clear p2
        try clear c4
        try clear c4b0
        try clear c5
        try clear c5b0
        try clear p6
        try clear q6
        try clear hx6
        try clear p2
        try clear p6
        try clear q6
        obtain ⟨kq, x21_2, rfl, HA, HJ2, ⟨mc2, rfl⟩⟩ := hcut
        cases kq with
        | zero => exact absurd HA.out (by simp [token_number.j1])
        | succ kj2 =>
          have H := HA.out
          clear HA
          simp only [token_number.j1] at H
          by_cases c8 : x21_2 = true
          · subst c8
            have H1 : (if 0 ≤ x9_1 then (if x9_1 < (a0.size : Int) then (if x9_1 = (wrap64 (a1 + 1)) then (if 0 ≤ a1 then (if a1 < (a0.size : Int) then (token_number.j2 kj2 a0 a1 x8_1 x9_1 (((bt a0 x9_1) - 48) % 256) ((bt a0 a1) == 48)) else (none)) else (none)) else (token_number.j2 kj2 a0 a1 x8_1 x9_1 (((bt a0 x9_1) - 48) % 256) false)) else (none)) else (none)) = some (r1, r2, r3, r4) := by rw [if_pos rfl] at H; exact H
            clear H
            have H := H1
            clear H1
            by_cases c9 : 0 ≤ x9_1
            · rw [if_pos c9] at H
              have c9b0 : decide (0 ≤ x9_1) = true := decide_eq_true c9
              clear c9
              by_cases c10 : x9_1 < (a0.size : Int)
              · rw [if_pos c10] at H
                have c10b0 : decide (x9_1 < (a0.size : Int)) = true := decide_eq_true c10
                clear c10
                have HC12 := Aside0.mk H
                clear H
                have p11 : 0 ≤ (x9_1 : Int) := of_decide_eq_true (by first | (with_reducible assumption) | assumption)
                have q11 : x9_1 < (a0.size : Int) := of_decide_eq_true (by first | (with_reducible assumption) | assumption)
                have hx11 := bt_at a0 x9_1
                replace p11 := eq_true p11
                replace q11 := eq_true q11
                go_upto_region 5 with (fail)
                go_cut [36] (fun v36 wc => ∃ (kq : Nat) (x36_11 : Bool), v36 = .bool x36_11 ∧ Aside0 (token_number.j2 kq a0 a1 x8_1 x9_1 (((bt a0 x9_1) - 48) % 256) x36_11 = some (r1, r2, r3, r4)) ∧ Aside0 (kq ≤ kj2) ∧ Drawn0 w wc)
                case first =>
                  have H := HC12.out
                  clear HC12
                  by_cases c13 : x9_1 = (wrap64 (a1 + 1))
                  · rw [if_pos c13] at H
                    have c13b0 : (x9_1 == (wrap64 (a1 + 1))) = true := beq_iff_eq.mpr c13
                    have c13b1 : (x9_1 != (wrap64 (a1 + 1))) = false := bne_eq_false_iff_eq.mpr c13
                    clear c13
                    (first | rw [c13b0] | (simp only [i64_w, i32_w]; rw [c13b0]) | rw [c13b1] | skip)
                    by_cases c14 : 0 ≤ a1
                    · rw [if_pos c14] at H
                      have c14b0 : decide (0 ≤ a1) = true := decide_eq_true c14
                      clear c14
                      by_cases c15 : a1 < (a0.size : Int)
                      · rw [if_pos c15] at H
                        have c15b0 : decide (a1 < (a0.size : Int)) = true := decide_eq_true c15
                        clear c15
                        have H' := Aside0.mk H
                        clear H
                        have p16 : 0 ≤ (a1 : Int) := of_decide_eq_true (by first | (with_reducible assumption) | assumption)
                        have q16 : a1 < (a0.size : Int) := of_decide_eq_true (by first | (with_reducible assumption) | assumption)
                        have hx16 := bt_at a0 a1
                        replace p16 := eq_true p16
                        replace q16 := eq_true q16
                        go_wp2
                        go_meet
                        case rel => exact ⟨_, (((bt a0 a1) == 48)), (by first | rfl | (simp; done) | (simp [*]; done)), H', ⟨by have := HK1.out; have := HJ2.out; first | omega | exact Nat.le_refl _⟩, by repeat (first | exact Drawn0.refl _ | apply Drawn0.step)⟩
                      · rw [if_neg c15] at H
                        exact absurd H (by simp)
                    · rw [if_neg c14] at H
                      exact absurd H (by simp)
                  · rw [if_neg c13] at H
                    have c13b0 : (x9_1 == (wrap64 (a1 + 1))) = false := beq_eq_false_iff_ne.mpr c13
                    have c13b1 : (x9_1 != (wrap64 (a1 + 1))) = true := bne_iff_ne.mpr c13
                    (first | rw [c13b0] | (simp only [i64_w, i32_w]; rw [c13b0]) | rw [c13b1] | skip)
                    have H' := Aside0.mk H
                    clear H
                    go_wp2
                    go_meet
                    case rel => exact ⟨_, (false), (by first | rfl | (simp; done) | (simp [*]; done)), H', ⟨by have := HK1.out; have := HJ2.out; first | omega | exact Nat.le_refl _⟩, by repeat (first | exact Drawn0.refl _ | apply Drawn0.step)⟩
                case rest =>
                  clear HC12
                  try clear c1
                  try clear p1
                  try clear q1
                  try clear hx1
                  try clear c2
                  try clear p2
                  try clear c4
                  try clear c4b0
                  try clear c5
                  try clear c5b0
                  try clear p6
                  try clear q6
                  try clear hx6
                  try clear c8
                  try clear c9
                  try clear c9b0
                  try clear c10
                  try clear c10b0
                  try clear p11
                  try clear q11
                  try clear hx11
                  try clear c13
                  try clear c13b0
                  try clear c13b1
                  try clear c14
                  try clear c14b0
                  try clear c15
                  try clear c15b0
                  try clear p16
                  try clear q16
                  try clear hx16
                  try clear p11
                  try clear p16
                  try clear p2
                  try clear p6
                  try clear q11
                  try clear q16
                  try clear q6
                  obtain ⟨kq, x36_11, rfl, HA, HJ11, ⟨mc11, rfl⟩⟩ := hcut
                  cases kq with
                  | zero => exact absurd HA.out (by simp [token_number.j2])
                  | succ kj11 =>
                    have H := HA.out
                    clear HA
                    simp only [token_number.j2] at H
                    by_cases c17 : x36_11 = true
                    · subst c17
                      have H1 : (some (0, 0, x9_1, 9)) = some (r1, r2, r3, r4) := by rw [if_pos rfl] at H; exact H
                      clear H
                      have H := H1
                      clear H1
                      simp only [Option.some.injEq, Prod.mk.injEq] at H
                      obtain ⟨rfl, rfl, rfl, rfl⟩ := H
                      go_wp2
                      refine bodyPost_ret (results_list (rs := [.tmp 4, .tmp 5, .tmp 6, .tmp 7]) rfl (by simp) (.tmp (.tmp (.tmp (.tmp .nil))))) rfl ?_
                      exact ⟨by first | rfl | (simp; done) | (simp [*]; done), by repeat (first | exact Drawn0.refl _ | apply Drawn0.step)⟩
                    · replace c17 := Bool.eq_false_iff.mpr c17
                      subst c17
                      have H1 : (if x8_1 > ((9223372036854775807 - (((bt a0 x9_1) - 48) % 256)) / 10) then (some (0, 0, a1, 2)) else (token_number.l0 kj11 a0 a1 (IntKind.u64.wrap ((IntKind.u64.wrap (10 * x8_1)) + (((bt a0 x9_1) - 48) % 256))) (wrap64 (x9_1 + 1)))) = some (r1, r2, r3, r4) := by rw [if_neg (show ¬ (false = true) by decide)] at H; exact H
                      clear H
                      have H := H1
                      clear H1
                      by_cases c18 : x8_1 > ((9223372036854775807 - (((bt a0 x9_1) - 48) % 256)) / 10)
                      · rw [if_pos c18] at H
                        have c18b0 : decide (((9223372036854775807 - (((bt a0 x9_1) - 48) % 256)) / 10) < x8_1) = true := decide_eq_true c18
                        clear c18
                        simp only [Option.some.injEq, Prod.mk.injEq] at H
                        obtain ⟨rfl, rfl, rfl, rfl⟩ := H
                        go_wp2
                        refine bodyPost_ret (results_list (rs := [.tmp 4, .tmp 5, .tmp 6, .tmp 7]) rfl (by simp) (.tmp (.tmp (.tmp (.tmp .nil))))) rfl ?_
                        exact ⟨by first | rfl | (simp; done) | (simp [*]; done), by repeat (first | exact Drawn0.refl _ | apply Drawn0.step)⟩
                      · rw [if_neg c18] at H
                        have c18b0 : decide (((9223372036854775807 - (((bt a0 x9_1) - 48) % 256)) / 10) < x8_1) = false := decide_eq_false c18
                        clear c18
                        have H' := Aside0.mk H
                        clear H
                        go_wp2
                        go_roundg kj11
                        case measure => have := HK1.out; have := HJ2.out; have := HJ11.out; omega
                        case rel => exact ⟨(IntKind.u64.wrap ((IntKind.u64.wrap (10 * x8_1)) + (((bt a0 x9_1) - 48) % 256))), (wrap64 (x9_1 + 1)), (by first | rfl | (simp; done) | (simp [*]; done)), (by first | rfl | (simp; done) | (simp [*]; done)), H', ⟨by have := HK1.out; have := HJ2.out; have := HJ11.out; omega⟩, by repeat (first | exact Drawn0.refl _ | apply Drawn0.step)⟩
              · rw [if_neg c10] at H
                exact absurd H (by simp)
            · rw [if_neg c9] at H
              exact absurd H (by simp)
          · replace c8 := Bool.eq_false_iff.mpr c8
            subst c8
            have H1 : (if x9_1 < (a0.size : Int) then (if 0 ≤ x9_1 then ((token_inner.f (bt a0 x9_1)).bind fun t104 => (if t104 = true then (some (0, 0, x9_1, 9)) else (some (wrap64 (x8_1), x9_1, 0, 0)))) else (none)) else (some (wrap64 (x8_1), x9_1, 0, 0))) = some (r1, r2, r3, r4) := by rw [if_neg (show ¬ (false = true) by decide)] at H; exact H
            clear H
            have H := H1
            clear H1
            by_cases c19 : x9_1 < (a0.size : Int)
            · rw [if_pos c19] at H
              have c19b0 : decide (x9_1 < (a0.size : Int)) = true := decide_eq_true c19
              clear c19
              by_cases c20 : 0 ≤ x9_1
              · rw [if_pos c20] at H
                have c20b0 : decide (0 ≤ x9_1) = true := decide_eq_true c20
                clear c20
                replace H := Option.bind_eq_some_iff.mp H
                obtain ⟨t104, A220, H⟩ := H
                replace H : (if t104 = true then (some (0, 0, x9_1, 9)) else (some (wrap64 (x8_1), x9_1, 0, 0))) = some (r1, r2, r3, r4) := H
                have A22 := Aside0.mk A220
                clear A220
                by_cases c23 : t104 = true
                · subst c23
                  have H1 : (some (0, 0, x9_1, 9)) = some (r1, r2, r3, r4) := by rw [if_pos rfl] at H; exact H
                  clear H
                  have H := H1
                  clear H1
                  simp only [Option.some.injEq, Prod.mk.injEq] at H
                  obtain ⟨rfl, rfl, rfl, rfl⟩ := H
                  have p21 : 0 ≤ (x9_1 : Int) := of_decide_eq_true (by first | (with_reducible assumption) | assumption)
                  have q21 : x9_1 < (a0.size : Int) := of_decide_eq_true (by first | (with_reducible assumption) | assumption)
                  have hx21 := bt_at a0 x9_1
                  replace p21 := eq_true p21
                  replace q21 := eq_true q21
                  go_wp2_with (first | (go_at_call 40; (with_reducible refine (token_inner.calls (bt a0 x9_1) true _ A22.out).mono ?_); rintro e w' ⟨rfl, ⟨nd, rfl⟩⟩))
                  refine bodyPost_ret (results_list (rs := [.tmp 4, .tmp 5, .tmp 6, .tmp 7]) rfl (by simp) (.tmp (.tmp (.tmp (.tmp .nil))))) rfl ?_
                  exact ⟨by first | rfl | (simp; done) | (simp [*]; done), by repeat (first | exact Drawn0.refl _ | apply Drawn0.step)⟩
                · replace c23 := Bool.eq_false_iff.mpr c23
                  subst c23
                  have H1 : (some (wrap64 (x8_1), x9_1, 0, 0)) = some (r1, r2, r3, r4) := by rw [if_neg (show ¬ (false = true) by decide)] at H; exact H
                  clear H
                  have H := H1
                  clear H1
                  simp only [Option.some.injEq, Prod.mk.injEq] at H
                  obtain ⟨rfl, rfl, rfl, rfl⟩ := H
                  have p21 : 0 ≤ (x9_1 : Int) := of_decide_eq_true (by first | (with_reducible assumption) | assumption)
                  have q21 : x9_1 < (a0.size : Int) := of_decide_eq_true (by first | (with_reducible assumption) | assumption)
                  have hx21 := bt_at a0 x9_1
                  replace p21 := eq_true p21
                  replace q21 := eq_true q21
                  go_wp2_with (first | (go_at_call 40; (with_reducible refine (token_inner.calls (bt a0 x9_1) false _ A22.out).mono ?_); rintro e w' ⟨rfl, ⟨nd, rfl⟩⟩))
                  refine bodyPost_ret (results_list (rs := [.tmp 4, .tmp 5, .tmp 6, .tmp 7]) rfl (by simp) (.tmp (.tmp (.tmp (.tmp .nil))))) rfl ?_
                  exact ⟨by first | rfl | (simp; done) | (simp [*]; done), by repeat (first | exact Drawn0.refl _ | apply Drawn0.step)⟩
              · rw [if_neg c20] at H
                exact absurd H (by simp)
            · rw [if_neg c19] at H
              have c19b0 : decide (x9_1 < (a0.size : Int)) = false := decide_eq_false c19
              clear c19
              simp only [Option.some.injEq, Prod.mk.injEq] at H
              obtain ⟨rfl, rfl, rfl, rfl⟩ := H
              go_wp2
              refine bodyPost_ret (results_list (rs := [.tmp 4, .tmp 5, .tmp 6, .tmp 7]) rfl (by simp) (.tmp (.tmp (.tmp (.tmp .nil))))) rfl ?_
              exact ⟨by first | rfl | (simp; done) | (simp [*]; done), by repeat (first | exact Drawn0.refl _ | apply Drawn0.step)⟩
end Go.Proofs.Ytlbchdalimngjaa.P
namespace Go.Proofs
open Go.Shelf
def Try.lays137_ren : Go.Shelf.Ren := ⟨fun | 137 => 44 | 217 => 60 | 266 => 90 | n => n, fun | 9 => 9 | 5 => 5 | 3 => 3 | n => n, fun | n => n⟩
theorem Try.lays137 : Go.Proofs.Lays.n137 Try.prog Try.lays137_ren := {
  mixed := by kernel_rfl
  f137 := Try.func44.trans (congrArg some (by kernel_rfl))
  f217 := Try.func60.trans (congrArg some (by kernel_rfl))
  f266 := Try.func90.trans (congrArg some (by kernel_rfl))
  t3 := Try.underlying3
  a3 := Try.isAgg3
  z3 := Try.sizeOf3
  v3 := Try.zeroValue3
  t5 := Try.underlying5
  a5 := Try.isAgg5
  z5 := Try.sizeOf5
  v5 := Try.zeroValue5
  t9 := Try.underlying9
  a9 := Try.isAgg9
  z9 := Try.sizeOf9
  v9 := Try.zeroValue9 }
open Go.RowKit in
theorem Try.strings_IndexByte (s : ByteArray) (c : Int) (w : World) :
    Calls Try.prog 44 #[.string s, .int .u8 c] w fun e w' => e = .returned (.int .i64 (Lib.indexByte s.data.toList c.toNat.toUInt8)) ∧ w' = w := Any.strings_IndexByte Try.lays137 s c w
end Go.Proofs
namespace Go.Proofs.Ytlbchdalimngjaa.P
open Go.RowKit Go.Proofs.YtlbchdalimngjaaW.PrintWords Go.Proofs.YtlbchdalimngjaaW.PrintLast
def strings_IndexByte.f (a0 : ByteArray) (a1 : Int) : Option Int := some (Lib.indexByte a0.data.toList a1.toNat.toUInt8)
theorem strings_IndexByte.calls (a0 : ByteArray) (a1 : Int) (r : Int) (w : World) (h : strings_IndexByte.f a0 a1 = some r) :
    Calls Try.prog 44 #[.string a0, .int .u8 a1] w fun e w' => e = .returned (.int .i64 r) ∧ Drawn0 w w' := by
  obtain rfl := Option.some.inj h
  exact (Try.strings_IndexByte a0 a1 w).mono fun e w' ⟨h1, h2⟩ => ⟨h1, by subst h2; exact Drawn0.refl _⟩
end Go.Proofs.Ytlbchdalimngjaa.P
namespace Go.Proofs.Ytlbchdalimngjaa.P
open Go.RowKit Go.Proofs.YtlbchdalimngjaaW.PrintWords Go.Proofs.YtlbchdalimngjaaW.PrintLast Go.Proofs.YtlbchdalimngjaaW.PrintMore
attribute [local go_sem] max2_int min2_int max_two min_two max_three min_three max_four min_four
set_option linter.unusedVariables false
set_option linter.unusedSimpArgs false
mutual
def token_text.l0 : Nat → ByteArray → Int → List Int → Int → Option (ByteArray × Int × Int × Int)
  | 0, _, _, _, _ => none
  | k + 1, x0, x1, x8, x9 => if x9 < (x0.size : Int) then (if 0 ≤ x9 then (token_text.j1 k x0 x1 x8 x9 ((bt x0 x9) != 34)) else (none)) else (token_text.j1 k x0 x1 x8 x9 false)
def token_text.j1 : Nat → ByteArray → Int → List Int → Int → Bool → Option (ByteArray × Int × Int × Int)
  | 0, _, _, _, _, _ => none
  | k + 1, x0, x1, x8, x9, x24 => if x24 = true then (if 0 ≤ x9 then (if x9 < (x0.size : Int) then (if (bt x0 x9) < 32 then (token_text.j2 k x0 x1 x8 x9 (bt x0 x9) true) else (token_text.j2 k x0 x1 x8 x9 (bt x0 x9) (decide ((bt x0 x9) > 126)))) else (none)) else (none)) else (if x9 ≥ (x0.size : Int) then (some ((⟨#[]⟩ : ByteArray), 0, (x0.size : Int), 4)) else (some (strOfNums x8, wrap64 (x9 + 1), 0, 0)))
def token_text.j2 : Nat → ByteArray → Int → List Int → Int → Int → Bool → Option (ByteArray × Int × Int × Int)
  | 0, _, _, _, _, _, _ => none
  | k + 1, x0, x1, x8, x9, x10, x33 => if x33 = true then (some ((⟨#[]⟩ : ByteArray), 0, x9, 9)) else (if x10 = 92 then (if (wrap64 (x9 + 1)) = (x0.size : Int) then (if (wrap64 (x9 + 1)) ≥ (x0.size : Int) then (some ((⟨#[]⟩ : ByteArray), 0, (x0.size : Int), 4)) else (some (strOfNums x8, wrap64 ((wrap64 (x9 + 1)) + 1), 0, 0))) else (if 0 ≤ (wrap64 (x9 + 1)) then (if (wrap64 (x9 + 1)) < (x0.size : Int) then (if (bt x0 (wrap64 (x9 + 1))) = 34 then (token_text.j3 k x0 x1 x8 (wrap64 (x9 + 1)) (bt x0 (wrap64 (x9 + 1))) ((bt x0 (wrap64 (x9 + 1))) == 34)) else (token_text.j3 k x0 x1 x8 (wrap64 (x9 + 1)) (bt x0 (wrap64 (x9 + 1))) ((bt x0 (wrap64 (x9 + 1))) == 92))) else (none)) else (none))) else (if (x8.length : Int) = 4095 then (some ((⟨#[]⟩ : ByteArray), 0, x1, 2)) else (if x8.length < 140737488355328 then (token_text.l0 k x0 x1 (x8 ++ [x10]) (wrap64 (x9 + 1))) else (none))))
def token_text.j3 : Nat → ByteArray → Int → List Int → Int → Int → Bool → Option (ByteArray × Int × Int × Int)
  | 0, _, _, _, _, _, _ => none
  | k + 1, x0, x1, x8, x9, x45, x47 => if x47 = true then (if 0 ≤ x9 then (if x9 < (x0.size : Int) then (if (x8.length : Int) = 4095 then (some ((⟨#[]⟩ : ByteArray), 0, x1, 2)) else (if x8.length < 140737488355328 then (token_text.l0 k x0 x1 (x8 ++ [bt x0 x9]) (wrap64 (x9 + 1))) else (none))) else (none)) else (none)) else (if x45 = 110 then (if (x8.length : Int) = 4095 then (some ((⟨#[]⟩ : ByteArray), 0, x1, 2)) else (if x8.length < 140737488355328 then (token_text.l0 k x0 x1 (x8 ++ [10]) (wrap64 (x9 + 1))) else (none))) else (if x45 = 120 then (token_text.l1 k x0 x1 x8 x9 0 0) else (some ((⟨#[]⟩ : ByteArray), 0, x9, 9))))
def token_text.l1 : Nat → ByteArray → Int → List Int → Int → Int → Int → Option (ByteArray × Int × Int × Int)
  | 0, _, _, _, _, _, _ => none
  | k + 1, x0, x1, x8, x9, x11, x57 => if x57 < 2 then (if (wrap64 (x9 + 1)) = (x0.size : Int) then (some ((⟨#[]⟩ : ByteArray), 0, wrap64 (x9 + 1), 4)) else (if 0 ≤ (wrap64 (x9 + 1)) then (if (wrap64 (x9 + 1)) < (x0.size : Int) then ((strings_IndexByte.f (⟨#[48, 49, 50, 51, 52, 53, 54, 55, 56, 57, 97, 98, 99, 100, 101, 102]⟩ : ByteArray) (bt x0 (wrap64 (x9 + 1)))).bind fun t114 => (if t114 < 0 then (some ((⟨#[]⟩ : ByteArray), 0, wrap64 (x9 + 1), 9)) else (token_text.l1 k x0 x1 x8 (wrap64 (x9 + 1)) (wrap64 ((wrap64 (16 * x11)) + t114)) (wrap64 (x57 + 1))))) else (none)) else (none))) else (if (x8.length : Int) = 4095 then (some ((⟨#[]⟩ : ByteArray), 0, x1, 2)) else (if x8.length < 140737488355328 then (token_text.l0 k x0 x1 (x8 ++ [(x11) % 256]) (wrap64 (x9 + 1))) else (none)))
end
def token_text.f (k : Nat) (a0 : ByteArray) (a1 : Int) : Option (ByteArray × Int × Int × Int) := token_text.l0 k a0 a1 ([] : List Int) (wrap64 (a1 + 1))
theorem token_text.mono_l : ∀ k, (∀ y0 y1 y2 y3, LeO (token_text.l0 k y0 y1 y2 y3) (token_text.l0 (k + 1) y0 y1 y2 y3)) ∧ (∀ y0 y1 y2 y3 y4, LeO (token_text.j1 k y0 y1 y2 y3 y4) (token_text.j1 (k + 1) y0 y1 y2 y3 y4)) ∧ (∀ y0 y1 y2 y3 y4 y5, LeO (token_text.j2 k y0 y1 y2 y3 y4 y5) (token_text.j2 (k + 1) y0 y1 y2 y3 y4 y5)) ∧ (∀ y0 y1 y2 y3 y4 y5, LeO (token_text.j3 k y0 y1 y2 y3 y4 y5) (token_text.j3 (k + 1) y0 y1 y2 y3 y4 y5)) ∧ (∀ y0 y1 y2 y3 y4 y5, LeO (token_text.l1 k y0 y1 y2 y3 y4 y5) (token_text.l1 (k + 1) y0 y1 y2 y3 y4 y5))
  | 0 => ⟨fun _ _ _ _ r h => by simp [token_text.l0] at h, fun _ _ _ _ _ r h => by simp [token_text.j1] at h, fun _ _ _ _ _ _ r h => by simp [token_text.j2] at h, fun _ _ _ _ _ _ r h => by simp [token_text.j3] at h, fun _ _ _ _ _ _ r h => by simp [token_text.l1] at h⟩
  | k + 1 => by
    obtain ⟨ih0, ih1, ih2, ih3, ih4⟩ := token_text.mono_l k
    refine ⟨?_, ?_, ?_, ?_, ?_⟩
    · intro y0 y1 y2 y3
      unfold token_text.l0
      repeat' first
      | (with_reducible exact ih0 _ _ _ _)
      | (with_reducible exact ih1 _ _ _ _ _)
      | (with_reducible exact ih2 _ _ _ _ _ _)
      | (with_reducible exact ih3 _ _ _ _ _ _)
      | (with_reducible exact ih4 _ _ _ _ _ _)
      | (with_reducible exact LeO.refl _)
      | (with_reducible exact LeO.none _)
      | (with_reducible refine LeO.ite ?_ ?_)
      | (with_reducible refine LeO.bind ?_ (fun _ => ?_))
      | exact ih0 _ _ _ _
      | exact ih1 _ _ _ _ _
      | exact ih2 _ _ _ _ _ _
      | exact ih3 _ _ _ _ _ _
      | exact ih4 _ _ _ _ _ _
      | exact LeO.none _
      | refine LeO.ite ?_ ?_
      | refine LeO.bind ?_ (fun _ => ?_)
    · intro y0 y1 y2 y3 y4
      unfold token_text.j1
      repeat' first
      | (with_reducible exact ih0 _ _ _ _)
      | (with_reducible exact ih1 _ _ _ _ _)
      | (with_reducible exact ih2 _ _ _ _ _ _)
      | (with_reducible exact ih3 _ _ _ _ _ _)
      | (with_reducible exact ih4 _ _ _ _ _ _)
      | (with_reducible exact LeO.refl _)
      | (with_reducible exact LeO.none _)
      | (with_reducible refine LeO.ite ?_ ?_)
      | (with_reducible refine LeO.bind ?_ (fun _ => ?_))
      | exact ih0 _ _ _ _
      | exact ih1 _ _ _ _ _
      | exact ih2 _ _ _ _ _ _
      | exact ih3 _ _ _ _ _ _
      | exact ih4 _ _ _ _ _ _
      | exact LeO.none _
      | refine LeO.ite ?_ ?_
      | refine LeO.bind ?_ (fun _ => ?_)
    · intro y0 y1 y2 y3 y4 y5
      unfold token_text.j2
      repeat' first
      | (with_reducible exact ih0 _ _ _ _)
      | (with_reducible exact ih1 _ _ _ _ _)
      | (with_reducible exact ih2 _ _ _ _ _ _)
      | (with_reducible exact ih3 _ _ _ _ _ _)
      | (with_reducible exact ih4 _ _ _ _ _ _)
      | (with_reducible exact LeO.refl _)
      | (with_reducible exact LeO.none _)
      | (with_reducible refine LeO.ite ?_ ?_)
      | (with_reducible refine LeO.bind ?_ (fun _ => ?_))
      | exact ih0 _ _ _ _
      | exact ih1 _ _ _ _ _
      | exact ih2 _ _ _ _ _ _
      | exact ih3 _ _ _ _ _ _
      | exact ih4 _ _ _ _ _ _
      | exact LeO.none _
      | refine LeO.ite ?_ ?_
      | refine LeO.bind ?_ (fun _ => ?_)
    · intro y0 y1 y2 y3 y4 y5
      unfold token_text.j3
      repeat' first
      | (with_reducible exact ih0 _ _ _ _)
      | (with_reducible exact ih1 _ _ _ _ _)
      | (with_reducible exact ih2 _ _ _ _ _ _)
      | (with_reducible exact ih3 _ _ _ _ _ _)
      | (with_reducible exact ih4 _ _ _ _ _ _)
      | (with_reducible exact LeO.refl _)
      | (with_reducible exact LeO.none _)
      | (with_reducible refine LeO.ite ?_ ?_)
      | (with_reducible refine LeO.bind ?_ (fun _ => ?_))
      | exact ih0 _ _ _ _
      | exact ih1 _ _ _ _ _
      | exact ih2 _ _ _ _ _ _
      | exact ih3 _ _ _ _ _ _
      | exact ih4 _ _ _ _ _ _
      | exact LeO.none _
      | refine LeO.ite ?_ ?_
      | refine LeO.bind ?_ (fun _ => ?_)
    · intro y0 y1 y2 y3 y4 y5
      unfold token_text.l1
      repeat' first
      | (with_reducible exact ih0 _ _ _ _)
      | (with_reducible exact ih1 _ _ _ _ _)
      | (with_reducible exact ih2 _ _ _ _ _ _)
      | (with_reducible exact ih3 _ _ _ _ _ _)
      | (with_reducible exact ih4 _ _ _ _ _ _)
      | (with_reducible exact LeO.refl _)
      | (with_reducible exact LeO.none _)
      | (with_reducible refine LeO.ite ?_ ?_)
      | (with_reducible refine LeO.bind ?_ (fun _ => ?_))
      | exact ih0 _ _ _ _
      | exact ih1 _ _ _ _ _
      | exact ih2 _ _ _ _ _ _
      | exact ih3 _ _ _ _ _ _
      | exact ih4 _ _ _ _ _ _
      | exact LeO.none _
      | refine LeO.ite ?_ ?_
      | refine LeO.bind ?_ (fun _ => ?_)
theorem token_text.mono : ∀ a0 a1 k, LeO (token_text.f k a0 a1) (token_text.f (k + 1) a0 a1) := by
  intro a0 a1 k
  obtain ⟨ih0, ih1, ih2, ih3, ih4⟩ := token_text.mono_l k
  unfold token_text.f
  repeat' first
      | (with_reducible exact ih0 _ _ _ _)
      | (with_reducible exact ih1 _ _ _ _ _)
      | (with_reducible exact ih2 _ _ _ _ _ _)
      | (with_reducible exact ih3 _ _ _ _ _ _)
      | (with_reducible exact ih4 _ _ _ _ _ _)
      | (with_reducible exact LeO.refl _)
      | (with_reducible exact LeO.none _)
      | (with_reducible refine LeO.ite ?_ ?_)
      | (with_reducible refine LeO.bind ?_ (fun _ => ?_))
      | exact ih0 _ _ _ _
      | exact ih1 _ _ _ _ _
      | exact ih2 _ _ _ _ _ _
      | exact ih3 _ _ _ _ _ _
      | exact ih4 _ _ _ _ _ _
      | exact LeO.none _
      | refine LeO.ite ?_ ?_
      | refine LeO.bind ?_ (fun _ => ?_)
set_option maxHeartbeats 8000000 in
set_option maxRecDepth 100000 in
theorem token_text.calls (k : Nat) (a0 : ByteArray) (a1 : Int) (r1 : ByteArray) (r2 : Int) (r3 : Int) (r4 : Int) (w : World) (h : token_text.f k a0 a1 = some (r1, r2, r3, r4)) :
    Calls Try.prog 43 #[.string a0, .int .i64 a1] w fun e w' => e = .returned (.tuple #[.string r1, .int .i64 r2, .int .i64 r3, .int .i64 r4]) ∧ Below w.heap.size w w' := by
  have HB := Aside0.mk (Below.refl w.heap.size w)
  have H : (token_text.l0 k a0 a1 ([] : List Int) (wrap64 (a1 + 1))) = some (r1, r2, r3, r4) := h
  clear h
  have H' := Aside0.mk H
  clear H
  go_enter Try.func43, Try.ntmps43
  go_wp2
  go_loopg [8, 9] k (fun kq v8 v9 w' => ∃ (x8_1 : List Int) (x9_1 : Int), v9 = .int .i64 x9_1 ∧ Aside0 (token_text.l0 kq a0 a1 x8_1 x9_1 = some (r1, r2, r3, r4)) ∧ Aside0 (kq ≤ k) ∧ Aside0 (Kd.R (Kd.int .u8) 5 w' w.heap.size (fun _ => True) v8 x8_1) ∧ Aside0 (Below w.heap.size w w'))
  case atStart => exact ⟨(([] : List Int)), (wrap64 (a1 + 1)), (by first | rfl | (simp; done) | (simp [*]; done)), H', ⟨Nat.le_refl _⟩, ⟨by first | exact Kd.R_nil _ _ _ _ _ | exact Kd.N_nil _ _ _ _ _ | exact Kd.V_nil _ _ _ _ _ | exact Kd.Q_nil _ _ _ _ _ | exact Kd.S_nil _ _ _ _ _⟩, ⟨by repeat (first | (with_reducible first | exact HB.out | apply below_alloc | apply pw_below_drewN | apply below_drew1) | exact HB.out)⟩⟩
  case round =>
    clear H'
    try clear p2
    obtain ⟨x8_1, x9_1, rfl, HA, HK1, HO_8, HB⟩ := hrel
    cases gk with
    | zero => exact absurd HA.out (by simp [token_text.l0])
    | succ k1 =>
      have H := HA.out
      clear HA
      simp only [token_text.l0] at H
      have HC3 := Aside0.mk H
      clear H
      go_upto_region 3 with (fail)
      go_cut [24] (fun v24 wc => ∃ (kq : Nat) (x24_2 : Bool), v24 = .bool x24_2 ∧ Aside0 (token_text.j1 kq a0 a1 x8_1 x9_1 x24_2 = some (r1, r2, r3, r4)) ∧ Aside0 (kq ≤ k1) ∧ Aside0 (Kd.R (Kd.int .u8) 5 wc w.heap.size (fun _ => True) u8 x8_1) ∧ Aside0 (Below w.heap.size w wc))
      case first =>
        have H := HC3.out
        clear HC3
        by_cases c4 : x9_1 < (a0.size : Int)
        · rw [if_pos c4] at H
          have c4b0 : decide (x9_1 < (a0.size : Int)) = true := decide_eq_true c4
          clear c4
          (first | rw [c4b0] | (simp only [i64_w, i32_w]; rw [c4b0]) | rw [c4b1] | skip)
          by_cases c5 : 0 ≤ x9_1
          · rw [if_pos c5] at H
            have c5b0 : decide (0 ≤ x9_1) = true := decide_eq_true c5
            clear c5
            have H' := Aside0.mk H
            clear H
            have p6 : 0 ≤ (x9_1 : Int) := of_decide_eq_true (by first | (with_reducible assumption) | assumption)
            have q6 : x9_1 < (a0.size : Int) := of_decide_eq_true (by first | (with_reducible assumption) | assumption)
            have hx6 := bt_at a0 x9_1
            replace p6 := eq_true p6
            replace q6 := eq_true q6
            go_wp2
            go_meet
            case rel => exact ⟨_, (((bt a0 x9_1) != 34)), (by first | rfl | (simp; done) | (simp [*]; done)), H', ⟨by have := HK1.out; first | omega | exact Nat.le_refl _⟩, ⟨by (with_reducible repeat (first | apply Kd.R_alloc | apply Kd.R_drewN | apply Kd.R_drew)); exact HO_8.out⟩, ⟨by repeat (first | (with_reducible first | exact HB.out | apply below_alloc | apply pw_below_drewN | apply below_drew1) | exact HB.out)⟩⟩
          · rw [if_neg c5] at H
            exact absurd H (by simp)
        · rw [if_neg c4] at H
          have c4b0 : decide (x9_1 < (a0.size : Int)) = false := decide_eq_false c4
          clear c4
          (first | rw [c4b0] | (simp only [i64_w, i32_w]; rw [c4b0]) | rw [c4b1] | skip)
          have H' := Aside0.mk H
          clear H
          go_wp2
          go_meet
          case rel => exact ⟨_, (false), (by first | rfl | (simp; done) | (simp [*]; done)), H', ⟨by have := HK1.out; first | omega | exact Nat.le_refl _⟩, ⟨by (with_reducible repeat (first | apply Kd.R_alloc | apply Kd.R_drewN | apply Kd.R_drew)); exact HO_8.out⟩, ⟨by repeat (first | (with_reducible first | exact HB.out | apply below_alloc | apply pw_below_drewN | apply below_drew1) | exact HB.out)⟩⟩
      case rest =>
        clear HC3
        try clear p2
        try clear c4
        try clear c4b0
        try clear c5
        try clear c5b0
        try clear p6
        try clear q6
        try clear hx6
        try clear p2
        try clear p6
        try clear q6
        obtain ⟨kq, x24_2, rfl, HA, HJ2, HO_8, HB⟩ := hcut
        cases kq with
        | zero => exact absurd HA.out (by simp [token_text.j1])
        | succ kj2 =>
          have H := HA.out
          clear HA
          simp only [token_text.j1] at H
          by_cases c7 : x24_2 = true
          · subst c7
            have H1 : (if 0 ≤ x9_1 then (if x9_1 < (a0.size : Int) then (if (bt a0 x9_1) < 32 then (token_text.j2 kj2 a0 a1 x8_1 x9_1 (bt a0 x9_1) true) else (token_text.j2 kj2 a0 a1 x8_1 x9_1 (bt a0 x9_1) (decide ((bt a0 x9_1) > 126)))) else (none)) else (none)) = some (r1, r2, r3, r4) := by rw [if_pos rfl] at H; exact H
            clear H
            have H := H1
            clear H1
            by_cases c8 : 0 ≤ x9_1
            · rw [if_pos c8] at H
              have c8b0 : decide (0 ≤ x9_1) = true := decide_eq_true c8
              clear c8
              by_cases c9 : x9_1 < (a0.size : Int)
              · rw [if_pos c9] at H
                have c9b0 : decide (x9_1 < (a0.size : Int)) = true := decide_eq_true c9
                clear c9
                have HC11 := Aside0.mk H
                clear H
                have p10 : 0 ≤ (x9_1 : Int) := of_decide_eq_true (by first | (with_reducible assumption) | assumption)
                have q10 : x9_1 < (a0.size : Int) := of_decide_eq_true (by first | (with_reducible assumption) | assumption)
                have hx10 := bt_at a0 x9_1
                replace p10 := eq_true p10
                replace q10 := eq_true q10
                go_upto_region 5 with (fail)
                go_cut [33] (fun v33 wc => ∃ (kq : Nat) (x33_10 : Bool), v33 = .bool x33_10 ∧ Aside0 (token_text.j2 kq a0 a1 x8_1 x9_1 (bt a0 x9_1) x33_10 = some (r1, r2, r3, r4)) ∧ Aside0 (kq ≤ kj2) ∧ Aside0 (Kd.R (Kd.int .u8) 5 wc w.heap.size (fun _ => True) u8 x8_1) ∧ Aside0 (Below w.heap.size w wc))
                case first =>
                  have H := HC11.out
                  clear HC11
                  by_cases c12 : (bt a0 x9_1) < 32
                  · rw [if_pos c12] at H
                    have c12b0 : decide ((bt a0 x9_1) < 32) = true := decide_eq_true c12
                    clear c12
                    (first | rw [c12b0] | (simp only [i64_w, i32_w]; rw [c12b0]) | rw [c12b1] | skip)
                    have H' := Aside0.mk H
                    clear H
                    go_wp2
                    go_meet
                    case rel => exact ⟨_, (true), (by first | rfl | (simp; done) | (simp [*]; done)), H', ⟨by have := HK1.out; have := HJ2.out; first | omega | exact Nat.le_refl _⟩, ⟨by (with_reducible repeat (first | apply Kd.R_alloc | apply Kd.R_drewN | apply Kd.R_drew)); exact HO_8.out⟩, ⟨by repeat (first | (with_reducible first | exact HB.out | apply below_alloc | apply pw_below_drewN | apply below_drew1) | exact HB.out)⟩⟩
                  · rw [if_neg c12] at H
                    have c12b0 : decide ((bt a0 x9_1) < 32) = false := decide_eq_false c12
                    clear c12
                    (first | rw [c12b0] | (simp only [i64_w, i32_w]; rw [c12b0]) | rw [c12b1] | skip)
                    have H' := Aside0.mk H
                    clear H
                    go_wp2
                    go_meet
                    case rel => exact ⟨_, (decide ((bt a0 x9_1) > 126)), (by first | rfl | (simp; done) | (simp [*]; done)), H', ⟨by have := HK1.out; have := HJ2.out; first | omega | exact Nat.le_refl _⟩, ⟨by (with_reducible repeat (first | apply Kd.R_alloc | apply Kd.R_drewN | apply Kd.R_drew)); exact HO_8.out⟩, ⟨by repeat (first | (with_reducible first | exact HB.out | apply below_alloc | apply pw_below_drewN | apply below_drew1) | exact HB.out)⟩⟩
                case rest =>
                  clear HC11
                  try clear c1
                  try clear p1
                  try clear q1
                  try clear hx1
                  try clear p2
                  try clear c4
                  try clear c4b0
                  try clear c5
                  try clear c5b0
                  try clear p6
                  try clear q6
                  try clear hx6
                  try clear c7
                  try clear c8
                  try clear c8b0
                  try clear c9
                  try clear c9b0
                  try clear p10
                  try clear q10
                  try clear hx10
                  try clear c12
                  try clear c12b0
                  try clear p10
                  try clear p2
                  try clear p6
                  try clear q10
                  try clear q6
                  obtain ⟨kq, x33_10, rfl, HA, HJ10, HO_8, HB⟩ := hcut
                  cases kq with
                  | zero => exact absurd HA.out (by simp [token_text.j2])
                  | succ kj10 =>
                    have H := HA.out
                    clear HA
                    simp only [token_text.j2] at H
                    by_cases c13 : x33_10 = true
                    · subst c13
                      have H1 : (some ((⟨#[]⟩ : ByteArray), 0, x9_1, 9)) = some (r1, r2, r3, r4) := by rw [if_pos rfl] at H; exact H
                      clear H
                      have H := H1
                      clear H1
                      simp only [Option.some.injEq, Prod.mk.injEq] at H
                      obtain ⟨rfl, rfl, rfl, rfl⟩ := H
                      go_wp2
                      refine bodyPost_ret (results_list (rs := [.tmp 4, .tmp 5, .tmp 6, .tmp 7]) rfl (by simp) (.tmp (.tmp (.tmp (.tmp .nil))))) rfl ?_
                      exact ⟨by first | rfl | (simp [errW_none, errW_some] <;> rfl) | (simp [*, errW_none, errW_some] <;> rfl), by repeat (first | (with_reducible first | exact HB.out | apply below_alloc | apply pw_below_drewN | apply below_drew1) | exact HB.out)⟩
                    · replace c13 := Bool.eq_false_iff.mpr c13
                      subst c13
                      have H1 : (if (bt a0 x9_1) = 92 then (if (wrap64 (x9_1 + 1)) = (a0.size : Int) then (if (wrap64 (x9_1 + 1)) ≥ (a0.size : Int) then (some ((⟨#[]⟩ : ByteArray), 0, (a0.size : Int), 4)) else (some (strOfNums x8_1, wrap64 ((wrap64 (x9_1 + 1)) + 1), 0, 0))) else (if 0 ≤ (wrap64 (x9_1 + 1)) then (if (wrap64 (x9_1 + 1)) < (a0.size : Int) then (if (bt a0 (wrap64 (x9_1 + 1))) = 34 then (token_text.j3 kj10 a0 a1 x8_1 (wrap64 (x9_1 + 1)) (bt a0 (wrap64 (x9_1 + 1))) ((bt a0 (wrap64 (x9_1 + 1))) == 34)) else (token_text.j3 kj10 a0 a1 x8_1 (wrap64 (x9_1 + 1)) (bt a0 (wrap64 (x9_1 + 1))) ((bt a0 (wrap64 (x9_1 + 1))) == 92))) else (none)) else (none))) else (if (x8_1.length : Int) = 4095 then (some ((⟨#[]⟩ : ByteArray), 0, a1, 2)) else (if x8_1.length < 140737488355328 then (token_text.l0 kj10 a0 a1 (x8_1 ++ [(bt a0 x9_1)]) (wrap64 (x9_1 + 1))) else (none)))) = some (r1, r2, r3, r4) := by rw [if_neg (show ¬ (false = true) by decide)] at H; exact H
                      clear H
                      have H := H1
                      clear H1
                      by_cases c14 : (bt a0 x9_1) = 92
                      · rw [if_pos c14] at H
                        have c14b0 : ((bt a0 x9_1) == 92) = true := beq_iff_eq.mpr c14
                        have c14b1 : ((bt a0 x9_1) != 92) = false := bne_eq_false_iff_eq.mpr c14
                        clear c14
                        by_cases c15 : (wrap64 (x9_1 + 1)) = (a0.size : Int)
                        · rw [if_pos c15] at H
                          have c15b0 : ((wrap64 (x9_1 + 1)) == (a0.size : Int)) = true := beq_iff_eq.mpr c15
                          have c15b1 : ((wrap64 (x9_1 + 1)) != (a0.size : Int)) = false := bne_eq_false_iff_eq.mpr c15
                          clear c15
                          by_cases c16 : (wrap64 (x9_1 + 1)) ≥ (a0.size : Int)
                          · rw [if_pos c16] at H
                            have c16b0 : decide ((a0.size : Int) ≤ (wrap64 (x9_1 + 1))) = true := decide_eq_true c16
                            clear c16
                            simp only [Option.some.injEq, Prod.mk.injEq] at H
                            obtain ⟨rfl, rfl, rfl, rfl⟩ := H
                            go_wp2
                            refine bodyPost_ret (results_list (rs := [.tmp 4, .tmp 5, .tmp 6, .tmp 7]) rfl (by simp) (.tmp (.tmp (.tmp (.tmp .nil))))) rfl ?_
                            exact ⟨by first | rfl | (simp [errW_none, errW_some] <;> rfl) | (simp [*, errW_none, errW_some] <;> rfl), by repeat (first | (with_reducible first | exact HB.out | apply below_alloc | apply pw_below_drewN | apply below_drew1) | exact HB.out)⟩
                          · rw [if_neg c16] at H
                            have c16b0 : decide ((a0.size : Int) ≤ (wrap64 (x9_1 + 1))) = false := decide_eq_false c16
                            clear c16
                            simp only [Option.some.injEq, Prod.mk.injEq] at H
                            obtain ⟨rfl, rfl, rfl, rfl⟩ := H
                            have hcv17 := own_string (P := Try.prog) Try.underlying81 Try.underlying5 Try.underlying9 (Kd.own_of_R HO_8.out)
                            go_wp2
                            refine bodyPost_ret (results_list (rs := [.tmp 4, .tmp 5, .tmp 6, .tmp 7]) rfl (by simp) (.tmp (.tmp (.tmp (.tmp .nil))))) rfl ?_
                            exact ⟨by first | rfl | (simp [errW_none, errW_some] <;> rfl) | (simp [*, errW_none, errW_some] <;> rfl), by repeat (first | (with_reducible first | exact HB.out | apply below_alloc | apply pw_below_drewN | apply below_drew1) | exact HB.out)⟩
                        · rw [if_neg c15] at H
                          have c15b0 : ((wrap64 (x9_1 + 1)) == (a0.size : Int)) = false := beq_eq_false_iff_ne.mpr c15
                          have c15b1 : ((wrap64 (x9_1 + 1)) != (a0.size : Int)) = true := bne_iff_ne.mpr c15
                          obtain ⟨ji18, hji18⟩ : ∃ j_ : Int, (wrap64 (x9_1 + 1)) = j_ := ⟨_, rfl⟩
                          replace H : (if 0 ≤ (ji18) then (if (ji18) < (a0.size : Int) then (if (bt a0 (ji18)) = 34 then (token_text.j3 kj10 a0 a1 x8_1 ji18 (bt a0 (ji18)) ((bt a0 (ji18)) == 34)) else (token_text.j3 kj10 a0 a1 x8_1 ji18 (bt a0 (ji18)) ((bt a0 (ji18)) == 92))) else (none)) else (none)) = some (r1, r2, r3, r4) := by first | (rw [hji18] at H; exact H) | (simp only [hji18] at H ⊢; exact H)
                          (try rw [hji18] at c15b0)
                          (try rw [hji18] at c15b1)
                          have hji18w : (IntKind.i64.wrap (x9_1 + 1)) = ji18 := (i64_w _).trans hji18
                          by_cases c19 : 0 ≤ (ji18)
                          · rw [if_pos c19] at H
                            have c19b0 : decide (0 ≤ (ji18)) = true := decide_eq_true c19
                            clear c19
                            by_cases c20 : (ji18) < (a0.size : Int)
                            · rw [if_pos c20] at H
                              have c20b0 : decide ((ji18) < (a0.size : Int)) = true := decide_eq_true c20
                              clear c20
                              have HC22 := Aside0.mk H
                              clear H
                              have p21 : 0 ≤ ((ji18) : Int) := of_decide_eq_true (by first | (with_reducible assumption) | assumption)
                              have q21 : (ji18) < (a0.size : Int) := of_decide_eq_true (by first | (with_reducible assumption) | assumption)
                              have hx21 := bt_at a0 (ji18)
                              replace p21 := eq_true p21
                              replace q21 := eq_true q21
                              go_upto_if 47 with (fail)
                              go_cut [47] (fun v47 wc => ∃ (kq : Nat) (x47_21 : Bool), v47 = .bool x47_21 ∧ Aside0 (token_text.j3 kq a0 a1 x8_1 ji18 (bt a0 (ji18)) x47_21 = some (r1, r2, r3, r4)) ∧ Aside0 (kq ≤ kj10) ∧ Aside0 (Kd.R (Kd.int .u8) 5 wc w.heap.size (fun _ => True) u8 x8_1) ∧ Aside0 (Below w.heap.size w wc))
                              case first =>
                                have H := HC22.out
                                clear HC22
                                by_cases c23 : (bt a0 (ji18)) = 34
                                · rw [if_pos c23] at H
                                  have c23b0 : ((bt a0 (ji18)) == 34) = true := beq_iff_eq.mpr c23
                                  have c23b1 : ((bt a0 (ji18)) != 34) = false := bne_eq_false_iff_eq.mpr c23
                                  clear c23
                                  (first | rw [c23b0] | (simp only [i64_w, i32_w]; rw [c23b0]) | rw [c23b1] | skip)
                                  have H' := Aside0.mk H
                                  clear H
                                  go_wp2
                                  go_meet
                                  case rel => exact ⟨_, (((bt a0 (ji18)) == 34)), (by first | rfl | (simp; done) | (simp only [← hji18] <;> (first | rfl | (simp; done))) | (simp [*]; done)), H', ⟨by have := HK1.out; have := HJ2.out; have := HJ10.out; first | omega | exact Nat.le_refl _⟩, ⟨by (with_reducible repeat (first | apply Kd.R_alloc | apply Kd.R_drewN | apply Kd.R_drew)); exact HO_8.out⟩, ⟨by repeat (first | (with_reducible first | exact HB.out | apply below_alloc | apply pw_below_drewN | apply below_drew1) | exact HB.out)⟩⟩
                                · rw [if_neg c23] at H
                                  have c23b0 : ((bt a0 (ji18)) == 34) = false := beq_eq_false_iff_ne.mpr c23
                                  have c23b1 : ((bt a0 (ji18)) != 34) = true := bne_iff_ne.mpr c23
                                  (first | rw [c23b0] | (simp only [i64_w, i32_w]; rw [c23b0]) | rw [c23b1] | skip)
                                  have H' := Aside0.mk H
                                  clear H
                                  go_wp2
                                  go_meet
                                  case rel => exact ⟨_, (((bt a0 (ji18)) == 92)), (by first | rfl | (simp; done) | (simp only [← hji18] <;> (first | rfl | (simp; done))) | (simp [*]; done)), H', ⟨by have := HK1.out; have := HJ2.out; have := HJ10.out; first | omega | exact Nat.le_refl _⟩, ⟨by (with_reducible repeat (first | apply Kd.R_alloc | apply Kd.R_drewN | apply Kd.R_drew)); exact HO_8.out⟩, ⟨by repeat (first | (with_reducible first | exact HB.out | apply below_alloc | apply pw_below_drewN | apply below_drew1) | exact HB.out)⟩⟩
                              case rest =>
                                clear HC22
                                try clear c1
                                try clear p1
                                try clear q1
                                try clear hx1
                                try clear hcv1
                                try clear c2
                                try clear p2
                                try clear q2
                                try clear hx2
                                try clear c4
                                try clear c4b0
                                try clear c5
                                try clear c5b0
                                try clear p6
                                try clear q6
                                try clear hx6
                                try clear c7
                                try clear c8
                                try clear c8b0
                                try clear c9
                                try clear c9b0
                                try clear p10
                                try clear q10
                                try clear hx10
                                try clear c12
                                try clear c12b0
                                try clear c13
                                try clear c14
                                try clear c14b0
                                try clear c14b1
                                try clear c15
                                try clear c15b0
                                try clear c15b1
                                try clear c16
                                try clear c16b0
                                try clear hcv17
                                try clear c19
                                try clear c19b0
                                try clear c20
                                try clear c20b0
                                try clear p21
                                try clear q21
                                try clear hx21
                                try clear c23
                                try clear c23b0
                                try clear c23b1
                                try clear p1
                                try clear p10
                                try clear p2
                                try clear p21
                                try clear p6
                                try clear q1
                                try clear q10
                                try clear q21
                                try clear q6
                                obtain ⟨kq, x47_21, rfl, HA, HJ21, HO_8, HB⟩ := hcut
                                cases kq with
                                | zero => exact absurd HA.out (by simp [token_text.j3])
                                | succ kj21 =>
                                  have H := HA.out
                                  clear HA
                                  simp only [token_text.j3] at H
                                  by_cases c24 : x47_21 = true
                                  · subst c24
                                    have H1 : (if 0 ≤ ji18 then (if ji18 < (a0.size : Int) then (if (x8_1.length : Int) = 4095 then (some ((⟨#[]⟩ : ByteArray), 0, a1, 2)) else (if x8_1.length < 140737488355328 then (token_text.l0 kj21 a0 a1 (x8_1 ++ [bt a0 ji18]) (wrap64 (ji18 + 1))) else (none))) else (none)) else (none)) = some (r1, r2, r3, r4) := by rw [if_pos rfl] at H; exact H
                                    clear H
                                    have H := H1
                                    clear H1
                                    by_cases c25 : 0 ≤ ji18
                                    · rw [if_pos c25] at H
                                      have c25b0 : decide (0 ≤ ji18) = true := decide_eq_true c25
                                      clear c25
                                      by_cases c26 : ji18 < (a0.size : Int)
                                      · rw [if_pos c26] at H
                                        have c26b0 : decide (ji18 < (a0.size : Int)) = true := decide_eq_true c26
                                        clear c26
                                        by_cases c28 : (x8_1.length : Int) = 4095
                                        · rw [if_pos c28] at H
                                          have c28b0 : ((x8_1.length : Int) == 4095) = true := beq_iff_eq.mpr c28
                                          have c28b1 : ((x8_1.length : Int) != 4095) = false := bne_eq_false_iff_eq.mpr c28
                                          clear c28
                                          simp only [Option.some.injEq, Prod.mk.injEq] at H
                                          obtain ⟨rfl, rfl, rfl, rfl⟩ := H
                                          have p27 : 0 ≤ (ji18 : Int) := of_decide_eq_true (by first | (with_reducible assumption) | assumption)
                                          have q27 : ji18 < (a0.size : Int) := of_decide_eq_true (by first | (with_reducible assumption) | assumption)
                                          have hx27 := bt_at a0 ji18
                                          replace p27 := eq_true p27
                                          replace q27 := eq_true q27
                                          obtain ⟨Ao29, co29, eo29⟩ := Kd.R_slice HO_8.out
                                          subst eo29
                                          go_wp2
                                          refine bodyPost_ret (results_list (rs := [.tmp 4, .tmp 5, .tmp 6, .tmp 7]) rfl (by simp) (.tmp (.tmp (.tmp (.tmp .nil))))) rfl ?_
                                          exact ⟨by first | rfl | (simp [errW_none, errW_some] <;> rfl) | (simp only [← hji18]; first | rfl | (simp [errW_none, errW_some] <;> rfl)) | (simp [*, errW_none, errW_some] <;> rfl), by repeat (first | (with_reducible first | exact HB.out | apply below_alloc | apply pw_below_drewN | apply below_drew1) | exact HB.out)⟩
                                        · rw [if_neg c28] at H
                                          have c28b0 : ((x8_1.length : Int) == 4095) = false := beq_eq_false_iff_ne.mpr c28
                                          have c28b1 : ((x8_1.length : Int) != 4095) = true := bne_iff_ne.mpr c28
                                          by_cases c30 : x8_1.length < 140737488355328
                                          · rw [if_pos c30] at H
                                            have LMc30 := Aside0.mk c30
                                            clear c30
                                            obtain ⟨y105, hy105⟩ : ∃ y_ : List Int, y_ = (x8_1 ++ [bt a0 ji18]) := ⟨_, rfl⟩
                                            replace H : (token_text.l0 kj21 a0 a1 y105 (wrap64 (ji18 + 1))) = some (r1, r2, r3, r4) := by first | (rw [hy105]; with_reducible exact H) | (have H2_ := (Option.bind_some _ _).symm.trans H; rw [hy105]; with_reducible exact H2_) | (have H2_ := (Option.bind_some _ _).symm.trans H; with_reducible exact H2_) | with_reducible exact H | (rw [hy105]; exact H) | exact H
                                            have Ny105 := Aside0.mk hy105
                                            clear hy105
                                            have H' := Aside0.mk H
                                            clear H
                                            have p27 : 0 ≤ (ji18 : Int) := of_decide_eq_true (by first | (with_reducible assumption) | assumption)
                                            have q27 : ji18 < (a0.size : Int) := of_decide_eq_true (by first | (with_reducible assumption) | assumption)
                                            have hx27 := bt_at a0 ji18
                                            replace p27 := eq_true p27
                                            replace q27 := eq_true q27
                                            obtain ⟨Ao31, co31, eo31⟩ := Kd.R_slice HO_8.out
                                            subst eo31
                                            go_wp2_with (first | ((with_reducible refine gate_builtin (b := .append) (xs := #[.tmp 86, .tmp 88]) rfl ?_); at_builtin; refine Kd.R_append (Kd.int .u8) (w0 := w) w.heap.size rfl (.tmp 86) (.tmp 88) 81 5 (.int .u8 0) 1 rfl Try.underlying81 info5 rfl (by decide) (by omega) (.slice Ao31 x8_1.length co31) x8_1 (bt a0 ji18) [.int .u8 (bt a0 ji18)] (fun _ => True) (fun _ => False) rfl rfl ?aP (fun _ hk => hk.elim) ?aF ?aO ?aB ?aS ?aL ?_; (case aP => exact rfl); (case aB => exact (by repeat (first | (with_reducible first | exact HB.out | apply below_alloc | apply pw_below_drewN | apply below_drew1) | exact HB.out))); (case aF => exact (fun _ _ => trivial)); (case aO => exact (by (with_reducible repeat (first | apply Kd.R_alloc | apply Kd.R_drewN | apply Kd.R_drew)); exact HO_8.out)); (case aS => exact (below_size (by repeat (first | (with_reducible first | exact HB.out | apply below_alloc | apply pw_below_drewN | apply below_drew1) | exact HB.out)))); (case aL => have := LMc30.out; omega); intro v106 w32 ho hb hg hat; rw [← Ny105.out] at ho; have n0_ := Aside0.mk (hb); have n1_ := Aside0.mk (ho); clear HB; clear HO_8; have HB := n0_; have HO107 := n1_; clear n0_ n1_; clear ho hb hg hat))
                                            go_roundg kj21
                                            case measure => have := HK1.out; have := HJ2.out; have := HJ10.out; have := HJ21.out; omega
                                            case rel => exact ⟨(y105), (wrap64 (ji18 + 1)), (by first | rfl | (simp; done) | (simp only [← hji18] <;> (first | rfl | (simp; done))) | (simp [*]; done)), H', ⟨by have := HK1.out; have := HJ2.out; have := HJ10.out; have := HJ21.out; omega⟩, ⟨by (with_reducible repeat (first | apply Kd.R_alloc | apply Kd.R_drewN | apply Kd.R_drew)); exact HO107.out⟩, ⟨by repeat (first | (with_reducible first | exact HB.out | apply below_alloc | apply pw_below_drewN | apply below_drew1) | exact HB.out)⟩⟩
                                          · rw [if_neg c30] at H
                                            exact absurd H (by simp)
                                      · rw [if_neg c26] at H
                                        exact absurd H (by simp)
                                    · rw [if_neg c25] at H
                                      exact absurd H (by simp)
                                  · replace c24 := Bool.eq_false_iff.mpr c24
                                    subst c24
                                    have H1 : (if (bt a0 (ji18)) = 110 then (if (x8_1.length : Int) = 4095 then (some ((⟨#[]⟩ : ByteArray), 0, a1, 2)) else (if x8_1.length < 140737488355328 then (token_text.l0 kj21 a0 a1 (x8_1 ++ [10]) (wrap64 (ji18 + 1))) else (none))) else (if (bt a0 (ji18)) = 120 then (token_text.l1 kj21 a0 a1 x8_1 ji18 0 0) else (some ((⟨#[]⟩ : ByteArray), 0, ji18, 9)))) = some (r1, r2, r3, r4) := by rw [if_neg (show ¬ (false = true) by decide)] at H; exact H
                                    clear H
                                    have H := H1
                                    clear H1
                                    by_cases c33 : (bt a0 (ji18)) = 110
                                    · rw [if_pos c33] at H
                                      have c33b0 : ((bt a0 (ji18)) == 110) = true := beq_iff_eq.mpr c33
                                      have c33b1 : ((bt a0 (ji18)) != 110) = false := bne_eq_false_iff_eq.mpr c33
                                      clear c33
                                      by_cases c34 : (x8_1.length : Int) = 4095
                                      · rw [if_pos c34] at H
                                        have c34b0 : ((x8_1.length : Int) == 4095) = true := beq_iff_eq.mpr c34
                                        have c34b1 : ((x8_1.length : Int) != 4095) = false := bne_eq_false_iff_eq.mpr c34
                                        clear c34
                                        simp only [Option.some.injEq, Prod.mk.injEq] at H
                                        obtain ⟨rfl, rfl, rfl, rfl⟩ := H
                                        obtain ⟨Ao35, co35, eo35⟩ := Kd.R_slice HO_8.out
                                        subst eo35
                                        go_wp2
                                        refine bodyPost_ret (results_list (rs := [.tmp 4, .tmp 5, .tmp 6, .tmp 7]) rfl (by simp) (.tmp (.tmp (.tmp (.tmp .nil))))) rfl ?_
                                        exact ⟨by first | rfl | (simp [errW_none, errW_some] <;> rfl) | (simp only [← hji18]; first | rfl | (simp [errW_none, errW_some] <;> rfl)) | (simp [*, errW_none, errW_some] <;> rfl), by repeat (first | (with_reducible first | exact HB.out | apply below_alloc | apply pw_below_drewN | apply below_drew1) | exact HB.out)⟩
                                      · rw [if_neg c34] at H
                                        have c34b0 : ((x8_1.length : Int) == 4095) = false := beq_eq_false_iff_ne.mpr c34
                                        have c34b1 : ((x8_1.length : Int) != 4095) = true := bne_iff_ne.mpr c34
                                        by_cases c36 : x8_1.length < 140737488355328
                                        · rw [if_pos c36] at H
                                          have LMc36 := Aside0.mk c36
                                          clear c36
                                          obtain ⟨y108, hy108⟩ : ∃ y_ : List Int, y_ = (x8_1 ++ [10]) := ⟨_, rfl⟩
                                          replace H : (token_text.l0 kj21 a0 a1 y108 (wrap64 (ji18 + 1))) = some (r1, r2, r3, r4) := by first | (rw [hy108]; with_reducible exact H) | (have H2_ := (Option.bind_some _ _).symm.trans H; rw [hy108]; with_reducible exact H2_) | (have H2_ := (Option.bind_some _ _).symm.trans H; with_reducible exact H2_) | with_reducible exact H | (rw [hy108]; exact H) | exact H
                                          have Ny108 := Aside0.mk hy108
                                          clear hy108
                                          have H' := Aside0.mk H
                                          clear H
                                          obtain ⟨Ao37, co37, eo37⟩ := Kd.R_slice HO_8.out
                                          subst eo37
                                          go_wp2_with (first | ((with_reducible refine gate_builtin (b := .append) (xs := #[.tmp 86, .tmp 88]) rfl ?_); at_builtin; refine Kd.R_append (Kd.int .u8) (w0 := w) w.heap.size rfl (.tmp 86) (.tmp 88) 81 5 (.int .u8 0) 1 rfl Try.underlying81 info5 rfl (by decide) (by omega) (.slice Ao37 x8_1.length co37) x8_1 10 [.int .u8 10] (fun _ => True) (fun _ => False) rfl rfl ?aP (fun _ hk => hk.elim) ?aF ?aO ?aB ?aS ?aL ?_; (case aP => exact rfl); (case aB => exact (by repeat (first | (with_reducible first | exact HB.out | apply below_alloc | apply pw_below_drewN | apply below_drew1) | exact HB.out))); (case aF => exact (fun _ _ => trivial)); (case aO => exact (by (with_reducible repeat (first | apply Kd.R_alloc | apply Kd.R_drewN | apply Kd.R_drew)); exact HO_8.out)); (case aS => exact (below_size (by repeat (first | (with_reducible first | exact HB.out | apply below_alloc | apply pw_below_drewN | apply below_drew1) | exact HB.out)))); (case aL => have := LMc36.out; omega); intro v109 w38 ho hb hg hat; rw [← Ny108.out] at ho; have n0_ := Aside0.mk (hb); have n1_ := Aside0.mk (ho); clear HB; clear HO_8; have HB := n0_; have HO110 := n1_; clear n0_ n1_; clear ho hb hg hat))
                                          go_roundg kj21
                                          case measure => have := HK1.out; have := HJ2.out; have := HJ10.out; have := HJ21.out; omega
                                          case rel => exact ⟨(y108), (wrap64 (ji18 + 1)), (by first | rfl | (simp; done) | (simp only [← hji18] <;> (first | rfl | (simp; done))) | (simp [*]; done)), H', ⟨by have := HK1.out; have := HJ2.out; have := HJ10.out; have := HJ21.out; omega⟩, ⟨by (with_reducible repeat (first | apply Kd.R_alloc | apply Kd.R_drewN | apply Kd.R_drew)); exact HO110.out⟩, ⟨by repeat (first | (with_reducible first | exact HB.out | apply below_alloc | apply pw_below_drewN | apply below_drew1) | exact HB.out)⟩⟩
                                        · rw [if_neg c36] at H
                                          exact absurd H (by simp)
                                    · rw [if_neg c33] at H
                                      have c33b0 : ((bt a0 (ji18)) == 110) = false := beq_eq_false_iff_ne.mpr c33
                                      have c33b1 : ((bt a0 (ji18)) != 110) = true := bne_iff_ne.mpr c33
                                      by_cases c39 : (bt a0 (ji18)) = 120
                                      · rw [if_pos c39] at H
                                        have c39b0 : ((bt a0 (ji18)) == 120) = true := beq_iff_eq.mpr c39
                                        have c39b1 : ((bt a0 (ji18)) != 120) = false := bne_eq_false_iff_eq.mpr c39
                                        clear c39
                                        have H' := Aside0.mk H
                                        clear H
                                        go_wp2
                                        go_loopg [9, 11, 57] kj21 (fun kq v9 v11 v57 w' => ∃ (x9_5 : Int) (x11_5 : Int) (x57_5 : Int), v9 = .int .i64 x9_5 ∧ v11 = .int .i64 x11_5 ∧ v57 = .int .i64 x57_5 ∧ Aside0 (token_text.l1 kq a0 a1 x8_1 x9_5 x11_5 x57_5 = some (r1, r2, r3, r4)) ∧ Aside0 (kq ≤ kj21) ∧ Aside0 (Kd.R (Kd.int .u8) 5 w' w.heap.size (fun _ => True) u8 x8_1) ∧ Aside0 (Below w.heap.size w w'))
                                        case atStart => exact ⟨(ji18), (0), (0), (by first | rfl | (simp; done) | (simp only [← hji18] <;> (first | rfl | (simp; done))) | (simp [*]; done)), (by first | rfl | (simp; done) | (simp [*]; done)), (by first | rfl | (simp; done) | (simp [*]; done)), H', ⟨Nat.le_refl _⟩, ⟨by (with_reducible repeat (first | apply Kd.R_alloc | apply Kd.R_drewN | apply Kd.R_drew)); exact HO_8.out⟩, ⟨by repeat (first | (with_reducible first | exact HB.out | apply below_alloc | apply pw_below_drewN | apply below_drew1) | exact HB.out)⟩⟩
                                        case round =>
                                          clear H'
                                          try clear c1
                                          try clear p1
                                          try clear q1
                                          try clear hx1
                                          try clear hcv1
                                          try clear c2
                                          try clear p2
                                          try clear q2
                                          try clear hx2
                                          try clear c3
                                          try clear c4
                                          try clear c4b0
                                          try clear c5
                                          try clear c5b0
                                          try clear p6
                                          try clear q6
                                          try clear hx6
                                          try clear c7
                                          try clear c8
                                          try clear c8b0
                                          try clear c9
                                          try clear c9b0
                                          try clear p10
                                          try clear q10
                                          try clear hx10
                                          try clear c12
                                          try clear c12b0
                                          try clear c13
                                          try clear c14
                                          try clear c14b0
                                          try clear c14b1
                                          try clear c15
                                          try clear c15b0
                                          try clear c15b1
                                          try clear c16
                                          try clear c16b0
                                          try clear hcv17
                                          try clear c19
                                          try clear c19b0
                                          try clear c20
                                          try clear c20b0
                                          try clear p21
                                          try clear q21
                                          try clear hx21
                                          try clear c23
                                          try clear c23b0
                                          try clear c23b1
                                          try clear c24
                                          try clear c25
                                          try clear c25b0
                                          try clear c26
                                          try clear c26b0
                                          try clear p27
                                          try clear q27
                                          try clear hx27
                                          try clear c28
                                          try clear c28b0
                                          try clear c28b1
                                          try clear c30
                                          try clear c33
                                          try clear c33b0
                                          try clear c33b1
                                          try clear c34
                                          try clear c34b0
                                          try clear c34b1
                                          try clear c36
                                          try clear c39
                                          try clear c39b0
                                          try clear c39b1
                                          try clear p1
                                          try clear p10
                                          try clear p2
                                          try clear p21
                                          try clear p27
                                          try clear p6
                                          try clear q1
                                          try clear q10
                                          try clear q2
                                          try clear q21
                                          try clear q27
                                          try clear q6
                                          obtain ⟨x9_5, x11_5, x57_5, rfl, rfl, rfl, HA, HK5, HO_8, HB⟩ := hrel
                                          cases gk with
                                          | zero => exact absurd HA.out (by simp [token_text.l1])
                                          | succ k5 =>
                                            have H := HA.out
                                            clear HA
                                            simp only [token_text.l1] at H
                                            by_cases c40 : x57_5 < 2
                                            · rw [if_pos c40] at H
                                              have c40b0 : decide (x57_5 < 2) = true := decide_eq_true c40
                                              clear c40
                                              by_cases c41 : (wrap64 (x9_5 + 1)) = (a0.size : Int)
                                              · rw [if_pos c41] at H
                                                have c41b0 : ((wrap64 (x9_5 + 1)) == (a0.size : Int)) = true := beq_iff_eq.mpr c41
                                                have c41b1 : ((wrap64 (x9_5 + 1)) != (a0.size : Int)) = false := bne_eq_false_iff_eq.mpr c41
                                                clear c41
                                                simp only [Option.some.injEq, Prod.mk.injEq] at H
                                                obtain ⟨rfl, rfl, rfl, rfl⟩ := H
                                                go_wp2
                                                refine bodyPost_ret (results_list (rs := [.tmp 4, .tmp 5, .tmp 6, .tmp 7]) rfl (by simp) (.tmp (.tmp (.tmp (.tmp .nil))))) rfl ?_
                                                exact ⟨by first | rfl | (simp [errW_none, errW_some] <;> rfl) | (simp only [← hji18]; first | rfl | (simp [errW_none, errW_some] <;> rfl)) | (simp [*, errW_none, errW_some] <;> rfl), by repeat (first | (with_reducible first | exact HB.out | apply below_alloc | apply pw_below_drewN | apply below_drew1) | exact HB.out)⟩
                                              · rw [if_neg c41] at H
                                                have c41b0 : ((wrap64 (x9_5 + 1)) == (a0.size : Int)) = false := beq_eq_false_iff_ne.mpr c41
                                                have c41b1 : ((wrap64 (x9_5 + 1)) != (a0.size : Int)) = true := bne_iff_ne.mpr c41
                                                obtain ⟨ji42, hji42⟩ : ∃ j_ : Int, (wrap64 (x9_5 + 1)) = j_ := ⟨_, rfl⟩
                                                replace H : (if 0 ≤ (ji42) then (if (ji42) < (a0.size : Int) then ((strings_IndexByte.f (⟨#[48, 49, 50, 51, 52, 53, 54, 55, 56, 57, 97, 98, 99, 100, 101, 102]⟩ : ByteArray) (bt a0 (ji42))).bind fun t114 => (if t114 < 0 then (some ((⟨#[]⟩ : ByteArray), 0, ji42, 9)) else (token_text.l1 k5 a0 a1 x8_1 ji42 (wrap64 ((wrap64 (16 * x11_5)) + t114)) (wrap64 (x57_5 + 1))))) else (none)) else (none)) = some (r1, r2, r3, r4) := by first | (rw [hji42] at H; exact H) | (simp only [hji42] at H ⊢; exact H)
                                                (try rw [hji42] at c41b0)
                                                (try rw [hji42] at c41b1)
                                                have hji42w : (IntKind.i64.wrap (x9_5 + 1)) = ji42 := (i64_w _).trans hji42
                                                by_cases c43 : 0 ≤ (ji42)
                                                · rw [if_pos c43] at H
                                                  have c43b0 : decide (0 ≤ (ji42)) = true := decide_eq_true c43
                                                  clear c43
                                                  by_cases c44 : (ji42) < (a0.size : Int)
                                                  · rw [if_pos c44] at H
                                                    have c44b0 : decide ((ji42) < (a0.size : Int)) = true := decide_eq_true c44
                                                    clear c44
                                                    replace H := Option.bind_eq_some_iff.mp H
                                                    obtain ⟨t114, A460, H⟩ := H
                                                    replace H : (if t114 < 0 then (some ((⟨#[]⟩ : ByteArray), 0, ji42, 9)) else (token_text.l1 k5 a0 a1 x8_1 ji42 (wrap64 ((wrap64 (16 * x11_5)) + t114)) (wrap64 (x57_5 + 1)))) = some (r1, r2, r3, r4) := H
                                                    have A46 := Aside0.mk A460
                                                    clear A460
                                                    by_cases c47 : t114 < 0
                                                    · rw [if_pos c47] at H
                                                      have c47b0 : decide (t114 < 0) = true := decide_eq_true c47
                                                      clear c47
                                                      simp only [Option.some.injEq, Prod.mk.injEq] at H
                                                      obtain ⟨rfl, rfl, rfl, rfl⟩ := H
                                                      have p45 : 0 ≤ ((ji42) : Int) := of_decide_eq_true (by first | (with_reducible assumption) | assumption)
                                                      have q45 : (ji42) < (a0.size : Int) := of_decide_eq_true (by first | (with_reducible assumption) | assumption)
                                                      have hx45 := bt_at a0 (ji42)
                                                      replace p45 := eq_true p45
                                                      replace q45 := eq_true q45
                                                      go_wp2_with (first | ((with_reducible refine gate_callee (f := 44) rfl ?_); refine goesL_ (some 69) rfl rfl Try.func44 (by kernel_rfl) rfl #[.string (⟨#[48, 49, 50, 51, 52, 53, 54, 55, 56, 57, 97, 98, 99, 100, 101, 102]⟩ : ByteArray), .int .u8 (bt a0 (ji42))] rfl (by (try simp only [List.map_toArray, List.map_cons, List.map_nil]); first | done | (simp only [hji42]; rfl) | rfl | (simp only [List.length_drop, List.length_take]; rfl)) ?_; (with_reducible refine (strings_IndexByte.calls (⟨#[48, 49, 50, 51, 52, 53, 54, 55, 56, 57, 97, 98, 99, 100, 101, 102]⟩ : ByteArray) (bt a0 (ji42)) t114 _ A46.out).mono ?_); rintro e w' ⟨rfl, ⟨nd, rfl⟩⟩; refine ⟨_, rfl, ?_⟩))
                                                      refine bodyPost_ret (results_list (rs := [.tmp 4, .tmp 5, .tmp 6, .tmp 7]) rfl (by simp) (.tmp (.tmp (.tmp (.tmp .nil))))) rfl ?_
                                                      exact ⟨by first | rfl | (simp [errW_none, errW_some] <;> rfl) | (simp only [← hji18, ← hji42]; first | rfl | (simp [errW_none, errW_some] <;> rfl)) | (simp [*, errW_none, errW_some] <;> rfl), by repeat (first | (with_reducible first | exact HB.out | apply below_alloc | apply pw_below_drewN | apply below_drew1) | exact HB.out)⟩
                                                    · rw [if_neg c47] at H
                                                      have c47b0 : decide (t114 < 0) = false := decide_eq_false c47
                                                      clear c47
                                                      have H' := Aside0.mk H
                                                      clear H
                                                      have p45 : 0 ≤ ((ji42) : Int) := of_decide_eq_true (by first | (with_reducible assumption) | assumption)
                                                      have q45 : (ji42) < (a0.size : Int) := of_decide_eq_true (by first | (with_reducible assumption) | assumption)
                                                      have hx45 := bt_at a0 (ji42)
                                                      replace p45 := eq_true p45
                                                      replace q45 := eq_true q45
                                                      go_wp2_with (first | ((with_reducible refine gate_callee (f := 44) rfl ?_); refine goesL_ (some 69) rfl rfl Try.func44 (by kernel_rfl) rfl #[.string (⟨#[48, 49, 50, 51, 52, 53, 54, 55, 56, 57, 97, 98, 99, 100, 101, 102]⟩ : ByteArray), .int .u8 (bt a0 (ji42))] rfl (by (try simp only [List.map_toArray, List.map_cons, List.map_nil]); first | done | (simp only [hji42]; rfl) | rfl | (simp only [List.length_drop, List.length_take]; rfl)) ?_; (with_reducible refine (strings_IndexByte.calls (⟨#[48, 49, 50, 51, 52, 53, 54, 55, 56, 57, 97, 98, 99, 100, 101, 102]⟩ : ByteArray) (bt a0 (ji42)) t114 _ A46.out).mono ?_); rintro e w' ⟨rfl, ⟨nd, rfl⟩⟩; refine ⟨_, rfl, ?_⟩))
                                                      go_roundg k5
                                                      case measure => have := HK1.out; have := HJ2.out; have := HJ10.out; have := HJ21.out; have := HK5.out; omega
                                                      case rel => exact ⟨(ji42), (wrap64 ((wrap64 (16 * x11_5)) + t114)), (wrap64 (x57_5 + 1)), (by first | rfl | (simp; done) | (simp only [← hji42] <;> (first | rfl | (simp; done))) | (simp [*]; done)), (by first | rfl | (simp; done) | (simp [*]; done)), (by first | rfl | (simp; done) | (simp [*]; done)), H', ⟨by have := HK1.out; have := HJ2.out; have := HJ10.out; have := HJ21.out; have := HK5.out; omega⟩, ⟨by (with_reducible repeat (first | apply Kd.R_alloc | apply Kd.R_drewN | apply Kd.R_drew)); exact HO_8.out⟩, ⟨by repeat (first | (with_reducible first | exact HB.out | apply below_alloc | apply pw_below_drewN | apply below_drew1) | exact HB.out)⟩⟩
                                                  · rw [if_neg c44] at H
                                                    exact absurd H (by simp)
                                                · rw [if_neg c43] at H
                                                  exact absurd H (by simp)
                                            · rw [if_neg c40] at H
                                              have c40b0 : decide (x57_5 < 2) = false := decide_eq_false c40
                                              clear c40
                                              by_cases c48 : (x8_1.length : Int) = 4095
                                              · rw [if_pos c48] at H
                                                have c48b0 : ((x8_1.length : Int) == 4095) = true := beq_iff_eq.mpr c48
                                                have c48b1 : ((x8_1.length : Int) != 4095) = false := bne_eq_false_iff_eq.mpr c48
                                                clear c48
                                                simp only [Option.some.injEq, Prod.mk.injEq] at H
                                                obtain ⟨rfl, rfl, rfl, rfl⟩ := H
                                                obtain ⟨Ao49, co49, eo49⟩ := Kd.R_slice HO_8.out
                                                subst eo49
                                                go_wp2
                                                refine bodyPost_ret (results_list (rs := [.tmp 4, .tmp 5, .tmp 6, .tmp 7]) rfl (by simp) (.tmp (.tmp (.tmp (.tmp .nil))))) rfl ?_
                                                exact ⟨by first | rfl | (simp [errW_none, errW_some] <;> rfl) | (simp only [← hji18]; first | rfl | (simp [errW_none, errW_some] <;> rfl)) | (simp [*, errW_none, errW_some] <;> rfl), by repeat (first | (with_reducible first | exact HB.out | apply below_alloc | apply pw_below_drewN | apply below_drew1) | exact HB.out)⟩
                                              · rw [if_neg c48] at H
                                                have c48b0 : ((x8_1.length : Int) == 4095) = false := beq_eq_false_iff_ne.mpr c48
                                                have c48b1 : ((x8_1.length : Int) != 4095) = true := bne_iff_ne.mpr c48
                                                by_cases c50 : x8_1.length < 140737488355328
                                                · rw [if_pos c50] at H
                                                  have LMc50 := Aside0.mk c50
                                                  clear c50
                                                  obtain ⟨y111, hy111⟩ : ∃ y_ : List Int, y_ = (x8_1 ++ [(x11_5) % 256]) := ⟨_, rfl⟩
                                                  replace H : (token_text.l0 k5 a0 a1 y111 (wrap64 (x9_5 + 1))) = some (r1, r2, r3, r4) := by first | (rw [hy111]; with_reducible exact H) | (have H2_ := (Option.bind_some _ _).symm.trans H; rw [hy111]; with_reducible exact H2_) | (have H2_ := (Option.bind_some _ _).symm.trans H; with_reducible exact H2_) | with_reducible exact H | (rw [hy111]; exact H) | exact H
                                                  have Ny111 := Aside0.mk hy111
                                                  clear hy111
                                                  have H' := Aside0.mk H
                                                  clear H
                                                  obtain ⟨Ao51, co51, eo51⟩ := Kd.R_slice HO_8.out
                                                  subst eo51
                                                  go_wp2_with (first | ((with_reducible refine gate_builtin (b := .append) (xs := #[.tmp 86, .tmp 88]) rfl ?_); at_builtin; refine Kd.R_append (Kd.int .u8) (w0 := w) w.heap.size rfl (.tmp 86) (.tmp 88) 81 5 (.int .u8 0) 1 rfl Try.underlying81 info5 rfl (by decide) (by omega) (.slice Ao51 x8_1.length co51) x8_1 ((x11_5) % 256) [.int .u8 ((x11_5) % 256)] (fun _ => True) (fun _ => False) rfl rfl ?aP (fun _ hk => hk.elim) ?aF ?aO ?aB ?aS ?aL ?_; (case aP => exact rfl); (case aB => exact (by repeat (first | (with_reducible first | exact HB.out | apply below_alloc | apply pw_below_drewN | apply below_drew1) | exact HB.out))); (case aF => exact (fun _ _ => trivial)); (case aO => exact (by (with_reducible repeat (first | apply Kd.R_alloc | apply Kd.R_drewN | apply Kd.R_drew)); exact HO_8.out)); (case aS => exact (below_size (by repeat (first | (with_reducible first | exact HB.out | apply below_alloc | apply pw_below_drewN | apply below_drew1) | exact HB.out)))); (case aL => have := LMc50.out; omega); intro v112 w52 ho hb hg hat; rw [← Ny111.out] at ho; have n0_ := Aside0.mk (hb); have n1_ := Aside0.mk (ho); clear HB; clear HO_8; have HB := n0_; have HO113 := n1_; clear n0_ n1_; clear ho hb hg hat))
                                                  go_roundg k5
                                                  case measure => have := HK1.out; have := HJ2.out; have := HJ10.out; have := HJ21.out; have := HK5.out; omega
                                                  case rel => exact ⟨(y111), (wrap64 (x9_5 + 1)), (by first | rfl | (simp; done) | (simp [*]; done)), H', ⟨by have := HK1.out; have := HJ2.out; have := HJ10.out; have := HJ21.out; have := HK5.out; omega⟩, ⟨by (with_reducible repeat (first | apply Kd.R_alloc | apply Kd.R_drewN | apply Kd.R_drew)); exact HO113.out⟩, ⟨by repeat (first | (with_reducible first | exact HB.out | apply below_alloc | apply pw_below_drewN | apply below_drew1) | exact HB.out)⟩⟩
                                                · rw [if_neg c50] at H
                                                  exact absurd H (by simp)
                                      · rw [if_neg c39] at H
                                        have c39b0 : ((bt a0 (ji18)) == 120) = false := beq_eq_false_iff_ne.mpr c39
                                        have c39b1 : ((bt a0 (ji18)) != 120) = true := bne_iff_ne.mpr c39
                                        simp only [Option.some.injEq, Prod.mk.injEq] at H
                                        obtain ⟨rfl, rfl, rfl, rfl⟩ := H
                                        go_wp2
                                        refine bodyPost_ret (results_list (rs := [.tmp 4, .tmp 5, .tmp 6, .tmp 7]) rfl (by simp) (.tmp (.tmp (.tmp (.tmp .nil))))) rfl ?_
                                        exact ⟨by first | rfl | (simp [errW_none, errW_some] <;> rfl) | (simp only [← hji18]; first | rfl | (simp [errW_none, errW_some] <;> rfl)) | (simp [*, errW_none, errW_some] <;> rfl), by repeat (first | (with_reducible first | exact HB.out | apply below_alloc | apply pw_below_drewN | apply below_drew1) | exact HB.out)⟩
                            · rw [if_neg c20] at H
                              exact absurd H (by simp)
                          · rw [if_neg c19] at H
                            exact absurd H (by simp)
                      · rw [if_neg c14] at H
                        have c14b0 : ((bt a0 x9_1) == 92) = false := beq_eq_false_iff_ne.mpr c14
                        have c14b1 : ((bt a0 x9_1) != 92) = true := bne_iff_ne.mpr c14
                        by_cases c53 : (x8_1.length : Int) = 4095
                        · rw [if_pos c53] at H
                          have c53b0 : ((x8_1.length : Int) == 4095) = true := beq_iff_eq.mpr c53
                          have c53b1 : ((x8_1.length : Int) != 4095) = false := bne_eq_false_iff_eq.mpr c53
                          clear c53
                          simp only [Option.some.injEq, Prod.mk.injEq] at H
                          obtain ⟨rfl, rfl, rfl, rfl⟩ := H
                          obtain ⟨Ao54, co54, eo54⟩ := Kd.R_slice HO_8.out
                          subst eo54
                          go_wp2
                          refine bodyPost_ret (results_list (rs := [.tmp 4, .tmp 5, .tmp 6, .tmp 7]) rfl (by simp) (.tmp (.tmp (.tmp (.tmp .nil))))) rfl ?_
                          exact ⟨by first | rfl | (simp [errW_none, errW_some] <;> rfl) | (simp [*, errW_none, errW_some] <;> rfl), by repeat (first | (with_reducible first | exact HB.out | apply below_alloc | apply pw_below_drewN | apply below_drew1) | exact HB.out)⟩
                        · rw [if_neg c53] at H
                          have c53b0 : ((x8_1.length : Int) == 4095) = false := beq_eq_false_iff_ne.mpr c53
                          have c53b1 : ((x8_1.length : Int) != 4095) = true := bne_iff_ne.mpr c53
                          by_cases c55 : x8_1.length < 140737488355328
                          · rw [if_pos c55] at H
                            have LMc55 := Aside0.mk c55
                            clear c55
                            obtain ⟨y115, hy115⟩ : ∃ y_ : List Int, y_ = (x8_1 ++ [(bt a0 x9_1)]) := ⟨_, rfl⟩
                            replace H : (token_text.l0 kj10 a0 a1 y115 (wrap64 (x9_1 + 1))) = some (r1, r2, r3, r4) := by first | (rw [hy115]; with_reducible exact H) | (have H2_ := (Option.bind_some _ _).symm.trans H; rw [hy115]; with_reducible exact H2_) | (have H2_ := (Option.bind_some _ _).symm.trans H; with_reducible exact H2_) | with_reducible exact H | (rw [hy115]; exact H) | exact H
                            have Ny115 := Aside0.mk hy115
                            clear hy115
                            have H' := Aside0.mk H
                            clear H
                            obtain ⟨Ao56, co56, eo56⟩ := Kd.R_slice HO_8.out
                            subst eo56
                            go_wp2_with (first | ((with_reducible refine gate_builtin (b := .append) (xs := #[.tmp 86, .tmp 88]) rfl ?_); at_builtin; refine Kd.R_append (Kd.int .u8) (w0 := w) w.heap.size rfl (.tmp 86) (.tmp 88) 81 5 (.int .u8 0) 1 rfl Try.underlying81 info5 rfl (by decide) (by omega) (.slice Ao56 x8_1.length co56) x8_1 (bt a0 x9_1) [.int .u8 (bt a0 x9_1)] (fun _ => True) (fun _ => False) rfl rfl ?aP (fun _ hk => hk.elim) ?aF ?aO ?aB ?aS ?aL ?_; (case aP => exact rfl); (case aB => exact (by repeat (first | (with_reducible first | exact HB.out | apply below_alloc | apply pw_below_drewN | apply below_drew1) | exact HB.out))); (case aF => exact (fun _ _ => trivial)); (case aO => exact (by (with_reducible repeat (first | apply Kd.R_alloc | apply Kd.R_drewN | apply Kd.R_drew)); exact HO_8.out)); (case aS => exact (below_size (by repeat (first | (with_reducible first | exact HB.out | apply below_alloc | apply pw_below_drewN | apply below_drew1) | exact HB.out)))); (case aL => have := LMc55.out; omega); intro v116 w57 ho hb hg hat; rw [← Ny115.out] at ho; have n0_ := Aside0.mk (hb); have n1_ := Aside0.mk (ho); clear HB; clear HO_8; have HB := n0_; have HO117 := n1_; clear n0_ n1_; clear ho hb hg hat))
                            go_roundg kj10
                            case measure => have := HK1.out; have := HJ2.out; have := HJ10.out; omega
                            case rel => exact ⟨(y115), (wrap64 (x9_1 + 1)), (by first | rfl | (simp; done) | (simp [*]; done)), H', ⟨by have := HK1.out; have := HJ2.out; have := HJ10.out; omega⟩, ⟨by (with_reducible repeat (first | apply Kd.R_alloc | apply Kd.R_drewN | apply Kd.R_drew)); exact HO117.out⟩, ⟨by repeat (first | (with_reducible first | exact HB.out | apply below_alloc | apply pw_below_drewN | apply below_drew1) | exact HB.out)⟩⟩
                          · rw [if_neg c55] at H
                            exact absurd H (by simp)
              · rw [if_neg c9] at H
                exact absurd H (by simp)
            · rw [if_neg c8] at H
              exact absurd H (by simp)
          · replace c7 := Bool.eq_false_iff.mpr c7
            subst c7
            have H1 : (if x9_1 ≥ (a0.size : Int) then (some ((⟨#[]⟩ : ByteArray), 0, (a0.size : Int), 4)) else (some (strOfNums x8_1, wrap64 (x9_1 + 1), 0, 0))) = some (r1, r2, r3, r4) := by rw [if_neg (show ¬ (false = true) by decide)] at H; exact H
            clear H
            have H := H1
            clear H1
            by_cases c58 : x9_1 ≥ (a0.size : Int)
            · rw [if_pos c58] at H
              have c58b0 : decide ((a0.size : Int) ≤ x9_1) = true := decide_eq_true c58
              clear c58
              simp only [Option.some.injEq, Prod.mk.injEq] at H
              obtain ⟨rfl, rfl, rfl, rfl⟩ := H
              go_wp2
              refine bodyPost_ret (results_list (rs := [.tmp 4, .tmp 5, .tmp 6, .tmp 7]) rfl (by simp) (.tmp (.tmp (.tmp (.tmp .nil))))) rfl ?_
              exact ⟨by first | rfl | (simp [errW_none, errW_some] <;> rfl) | (simp [*, errW_none, errW_some] <;> rfl), by repeat (first | (with_reducible first | exact HB.out | apply below_alloc | apply pw_below_drewN | apply below_drew1) | exact HB.out)⟩
            · rw [if_neg c58] at H
              have c58b0 : decide ((a0.size : Int) ≤ x9_1) = false := decide_eq_false c58
              clear c58
              simp only [Option.some.injEq, Prod.mk.injEq] at H
              obtain ⟨rfl, rfl, rfl, rfl⟩ := H
              have hcv59 := own_string (P := Try.prog) Try.underlying81 Try.underlying5 Try.underlying9 (Kd.own_of_R HO_8.out)
              go_wp2
              refine bodyPost_ret (results_list (rs := [.tmp 4, .tmp 5, .tmp 6, .tmp 7]) rfl (by simp) (.tmp (.tmp (.tmp (.tmp .nil))))) rfl ?_
              exact ⟨by first | rfl | (simp [errW_none, errW_some] <;> rfl) | (simp [*, errW_none, errW_some] <;> rfl), by repeat (first | (with_reducible first | exact HB.out | apply below_alloc | apply pw_below_drewN | apply below_drew1) | exact HB.out)⟩
end Go.Proofs.Ytlbchdalimngjaa.P
namespace Go.Proofs.Ytlbchdalimngjaa.P
open Go.RowKit Go.Proofs.YtlbchdalimngjaaW.PrintWords Go.Proofs.YtlbchdalimngjaaW.PrintLast Go.Proofs.YtlbchdalimngjaaW.PrintMore
attribute [local go_sem] max2_int min2_int max_two min_two max_three min_three max_four min_four
set_option linter.unusedVariables false
set_option linter.unusedSimpArgs false
inductive Step07 where
  | skip (i : Int)
  | tok (x : S33) (i : Int)
  | bad (i e : Int)
def token_All.rem : Nat → ByteArray → Int → Option Int
  | 0, _, _ => none
  | k + 1, s, i => if i < (s.size : Int) then (if bt s i = 10 then some i else token_All.rem k s (wrap64 (i + 1))) else some i
def token_All.wd : Nat → ByteArray → Int → Option Int
  | 0, _, _ => none
  | k + 1, s, i => if i < (s.size : Int) then ((token_inner.f (bt s i)).bind fun b => if b = true then token_All.wd k s (wrap64 (i + 1)) else some i) else some i
def token_All.sg (s : ByteArray) (i c e : Int) : Option Step07 :=
  (strings_IndexByte.f (⟨#[40, 41, 123, 125, 91, 93, 44, 61, 60, 43, 45, 42, 47, 37, 33]⟩ : ByteArray) c).bind fun t =>
    if t < 0 then some (.bad i 9) else
    (strings_IndexByte.f (⟨#[61, 60, 33]⟩ : ByteArray) c).bind fun u =>
      if 0 ≤ u then (if e < (s.size : Int) then (if bt s e = 61 then some (.tok ⟨4, s.extract i.toNat (wrap64 (e + 1)).toNat, 0, i⟩ (wrap64 (e + 1))) else some (.tok ⟨4, s.extract i.toNat e.toNat, 0, i⟩ e)) else some (.tok ⟨4, s.extract i.toNat e.toNat, 0, i⟩ e))
      else some (.tok ⟨4, s.extract i.toNat e.toNat, 0, i⟩ e)
def token_All.one (k : Nat) (s : ByteArray) (i c e : Int) : Option Step07 :=
  if c = 32 then some (.skip (wrap64 (i + 1))) else
  if c = 10 then some (.skip (wrap64 (i + 1))) else
  if c = 35 then (token_All.rem k s i).bind fun j => some (.skip j) else
  (token_letter.f c).bind fun b => if b = true then
    ((token_All.wd k s e).bind fun j => if wrap64 (j - i) > 24 then some (.bad i 2) else if j ≤ (s.size : Int) then (if i ≤ j then some (.tok ⟨1, s.extract i.toNat j.toNat, 0, i⟩ j) else none) else none) else
  (token_digit.f c).bind fun b => if b = true then
    ((token_number.f k s i).bind fun q => if q.2.2.2 = 0 then some (.tok ⟨2, ⟨#[]⟩, q.1, i⟩ q.2.1) else some (.bad q.2.2.1 q.2.2.2)) else
  if c = 34 then ((token_text.f k s i).bind fun q => if q.2.2.2 = 0 then some (.tok ⟨3, q.1, 0, i⟩ q.2.1) else some (.bad q.2.2.1 q.2.2.2)) else
  if c = 33 then (if e = (s.size : Int) then some (.bad e 4) else if e < (s.size : Int) then (if bt s e = 61 then token_All.sg s i c e else some (.bad e 9)) else none) else
  token_All.sg s i c e
def token_All.l0 : Nat → ByteArray → List S33 → Int → Option (List S33 × Int × Int)
  | 0, _, _, _ => none
  | k + 1, s, l, i => if i < (s.size : Int) then (if 0 ≤ i then ((token_All.one k s i (bt s i) (wrap64 (i + 1))).bind fun
      | .skip j => token_All.l0 k s l j
      | .tok x j => if l.length < 3518437208883 then token_All.l0 k s (l ++ [x]) j else none
      | .bad a e => some ([], a, e)) else none) else some (l, 0, 0)
def token_All.f (k : Nat) (a0 : ByteArray) : Option (List S33 × Int × Int) := if (a0.size : Int) > 16384 then some (([] : List S33), 0, 2) else token_All.l0 k a0 [] 0
theorem token_All.rem_mono : ∀ k s i, LeO (token_All.rem k s i) (token_All.rem (k + 1) s i)
  | 0, _, _ => fun r h => by simp [token_All.rem] at h
  | k + 1, s, i => by
    have ih := token_All.rem_mono k
    unfold token_All.rem
    repeat' first | exact ih _ _ | exact LeO.refl _ | exact LeO.none _ | refine LeO.ite ?_ ?_ | refine LeO.bind ?_ (fun _ => ?_)
theorem token_All.wd_mono : ∀ k s i, LeO (token_All.wd k s i) (token_All.wd (k + 1) s i)
  | 0, _, _ => fun r h => by simp [token_All.wd] at h
  | k + 1, s, i => by
    have ih := token_All.wd_mono k
    unfold token_All.wd
    repeat' first | exact ih _ _ | exact LeO.refl _ | exact LeO.none _ | refine LeO.ite ?_ ?_ | refine LeO.bind ?_ (fun _ => ?_)
theorem token_All.one_mono (k : Nat) (s : ByteArray) (i c e : Int) : LeO (token_All.one k s i c e) (token_All.one (k + 1) s i c e) := by
  unfold token_All.one
  repeat' first | exact token_All.rem_mono _ _ _ | exact token_All.wd_mono _ _ _ | exact token_number.mono _ _ _ | exact token_text.mono _ _ _ | exact LeO.refl _ | exact LeO.none _ | refine LeO.ite ?_ ?_ | refine LeO.bind ?_ (fun _ => ?_)
theorem token_All.l0_mono : ∀ k s l i, LeO (token_All.l0 k s l i) (token_All.l0 (k + 1) s l i)
  | 0, _, _, _ => fun r h => by simp [token_All.l0] at h
  | k + 1, s, l, i => by
    have ih := token_All.l0_mono k
    rw [token_All.l0, token_All.l0]
    refine LeO.ite (LeO.ite (LeO.bind (token_All.one_mono _ _ _ _ _) (fun st => ?_)) (LeO.refl _)) (LeO.refl _)
    cases st with
    | skip j => exact ih _ _ _
    | tok x j => exact LeO.ite (ih _ _ _) (LeO.refl _)
    | bad a e => exact LeO.refl _
theorem token_All.mono : ∀ a0 k, LeO (token_All.f k a0) (token_All.f (k + 1) a0) := by
  intro a0 k
  unfold token_All.f
  exact LeO.ite (LeO.refl _) (token_All.l0_mono _ _ _ _)
end Go.Proofs.Ytlbchdalimngjaa.P
