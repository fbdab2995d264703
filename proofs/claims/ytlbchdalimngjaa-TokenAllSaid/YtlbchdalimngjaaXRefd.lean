/- Proved here: what prompterref07.All computes is what the lexer over lists of bytes says (no condition). -/
import Derived.Test.YtlbchdalimngjaaXRefc
import Derived.Test.YtlbchdalimngjaaPx9
namespace Go.Proofs.Ytlbchdalimngjaa.Lex
open Go.RowKit Go.Proofs.YtlbchdalimngjaaW.PrintWords Go.Proofs.YtlbchdalimngjaaW.PrintLast Go.Proofs.Ytlbchdalimngjaa.P
set_option linter.unusedVariables false
set_option linter.unusedSimpArgs false

/-! ### Signs -/
def signsR : List (List UInt8) := [[61, 61], [33, 61], [60, 61], [40], [41], [123], [125], [91], [93], [44], [61], [60], [43], [45], [42], [47], [37]]
theorem signs_are : prompterref07_Signs.f = some (signsR.map fun l => (⟨l.toArray⟩ : ByteArray)) := rfl
def pickR (c : UInt8) (cs : List UInt8) (Y : List (List UInt8)) : Step := match Y.find? (fun g => decide ((c :: cs).take g.length = g)) with
  | some g => .tok 4 g 0 g.length
  | none => if c = 33 then (if cs = [] then .bad 1 4 else .bad 1 9) else .bad 0 9
theorem pick_is (c : UInt8) (cs : List UInt8) : pickR c cs signsR = sgn c cs := by
  by_cases h : c ∈ signs
  · simp only [signs, List.mem_cons, List.not_mem_nil, or_false] at h
    rcases h with rfl | rfl | rfl | rfl | rfl | rfl | rfl | rfl | rfl | rfl | rfl | rfl | rfl | rfl | rfl
    all_goals
      cases cs with
      | nil => rfl
      | cons d cs =>
        by_cases hd : d = 61
        · subst hd; simp [pickR, signsR, sgn, signs, List.find?]
        · simp [pickR, signsR, sgn, signs, List.find?, hd]
  · have hs : sgn c cs = .bad 0 9 := by
      unfold sgn
      rw [if_neg (fun x => h (by rw [u8_eq (by decide) x.1]; decide)), if_pos h]
    rw [hs]
    have hn : signsR.find? (fun g => decide ((c :: cs).take g.length = g)) = none := by
      rw [List.find?_eq_none]
      intro g hg
      simp only [signs, List.mem_cons, List.not_mem_nil, or_false, not_or] at h
      obtain ⟨n1, n2, n3, n4, n5, n6, n7, n8, n9, n10, n11, n12, n13, n14, n15⟩ := h
      simp only [signsR, List.mem_cons, List.not_mem_nil, or_false] at hg
      rcases hg with rfl | rfl | rfl | rfl | rfl | rfl | rfl | rfl | rfl | rfl | rfl | rfl | rfl | rfl | rfl | rfl | rfl
      all_goals simp [*]
    have h33 : c ≠ 33 := fun e => h (by rw [e]; decide)
    unfold pickR
    rw [hn]
    simp [h33]
theorem rd_signs (Z : List (List UInt8)) (j : Nat) (g : List UInt8) (h : Z[j]? = some g) : rdOf ByteArray.empty (Z.map fun l => (⟨l.toArray⟩ : ByteArray)) (j : Int) = ⟨g.toArray⟩ := by
  unfold rdOf
  rw [List.getD_eq_getElem?_getD, Int.toNat_natCast, List.getElem?_map, h]
  rfl
theorem sign_go (Z : List (List UInt8)) (hZ : Z.length ≤ 100) (hZ2 : ∀ g ∈ Z, g.length ≤ 2) (s : ByteArray) (hs : s.size ≤ 16384) (i : Nat) (c : UInt8) (cs : List UInt8) (h : s.data.toList.drop i = c :: cs) : ∀ (Y : List (List UInt8)) (j : Nat), Z.drop j = Y → j ≤ Z.length →
    Ev (fun k => prompterref07_sign.l0 k s (i : Int) (Z.map fun l => (⟨l.toArray⟩ : ByteArray)) (j : Int)) (stepR i (pickR c cs Y))
  | [], j, hj, hl => by
    obtain ⟨hb, hlt, hd⟩ := bt_get h
    have hsz := drop_len h (by omega)
    have := List.drop_eq_nil_iff.1 hj
    refine Ev.step (f := fun _ => some _) (fun k => ?_) (Ev.now _)
    show prompterref07_sign.l0 (k + 1) s _ _ _ = _
    rw [prompterref07_sign.l0, if_neg (by rw [List.length_map]; omega), if_pos (by omega), if_pos (by omega), hb, w64 (by omega) (by omega)]
    unfold pickR
    simp only [List.find?_nil]
    by_cases h33 : c = 33
    · rw [if_pos (by rw [h33]; rfl), if_pos h33]
      by_cases hc : cs = []
      · rw [if_pos hc, if_pos (by rw [hc] at hsz; simp at hsz; omega), wrong_is]
        simp [stepR]
      · have : 0 < cs.length := List.length_pos_iff.2 hc
        rw [if_neg hc, if_neg (by simp at hsz; omega), wrong_is]
        simp [stepR]
    · have : c.toNat ≠ 33 := fun e => h33 (u8_eq (by decide) e)
      rw [if_neg (by omega), if_neg h33, wrong_is]
      simp [stepR]
  | g :: Y, j, hj, hl => by
    obtain ⟨hb, hlt, hd⟩ := bt_get h
    have hsz := drop_len h (by omega)
    have hjl : j < Z.length := by
      rcases Nat.lt_or_ge j Z.length with h1 | h1
      · exact h1
      · rw [List.drop_eq_nil_of_le h1] at hj; cases hj
    have hget : Z[j]? = some g := by
      rw [List.drop_eq_getElem_cons hjl] at hj
      injection hj with h1 h2
      rw [List.getElem?_eq_getElem hjl, h1]
    have hY : Z.drop (j + 1) = Y := by
      rw [List.drop_eq_getElem_cons hjl] at hj
      injection hj
    have hg2 : g.length ≤ 2 := by
      exact hZ2 g (List.mem_of_getElem? hget)
    have hgs : (⟨g.toArray⟩ : ByteArray).size = g.length := by show g.toArray.size = _; simp
    have q1 : (j : Int) < (((Z.map fun l => (⟨l.toArray⟩ : ByteArray)).length : Nat) : Int) := by rw [List.length_map]; omega
    have q2 : (0 : Int) ≤ (j : Int) := by omega
    have q4 : (0 : Int) ≤ (i : Int) := by omega
    have q5 : (i : Int) ≤ ((i + g.length : Nat) : Int) := by omega
    have e5 : (⟨g.toArray⟩ : ByteArray).toList = g := by rw [ByteArray.toList_eq]
    have next := sign_go Z hZ hZ2 s hs i c cs h Y (j + 1) hY (by omega)
    have p1 : (0 : Int) ≤ (j : Int) ∧ (j : Int) ≤ 1000000 := by omega
    have p2 : (0 : Int) ≤ (i : Int) + ((g.length : Nat) : Int) ∧ (i : Int) + ((g.length : Nat) : Int) ≤ 1000000 := by omega
    have hle0 : (c :: cs).take g.length = g → ((i + g.length : Nat) : Int) ≤ (s.size : Int) := by
      intro hm
      have := congrArg List.length hm
      rw [List.length_take] at this
      omega
    have w1 : wrap64 ((j : Int) + 1) = ((j + 1 : Nat) : Int) := w64 p1.1 p1.2
    have ew : wrap64 ((i : Int) + (((⟨g.toArray⟩ : ByteArray).size : Nat) : Int)) = ((i + g.length : Nat) : Int) := by rw [hgs]; exact w64b p2.1 p2.2
    have e3 : (((i : Int)).toNat = i) := rfl
    have e4 : (((i + g.length : Nat) : Int)).toNat = i + g.length := rfl
    by_cases hm : (c :: cs).take g.length = g
    · have hp : pickR c cs (g :: Y) = .tok 4 g 0 g.length := by unfold pickR; rw [List.find?_cons_of_pos (by simpa using hm)]
      rw [hp]
      refine Ev.step (f := fun _ => some _) (fun k => ?_) (Ev.now _)
      show prompterref07_sign.l0 (k + 1) s _ _ _ = _
      rw [prompterref07_sign.l0, if_pos q1, if_pos q2, rd_signs Z j g hget, ew, if_pos (hle0 hm), if_pos q4, if_pos q5, e3, e4, ext_list h, hm, e5, if_pos rfl]
      simp [stepR]
    · have hp : pickR c cs (g :: Y) = pickR c cs Y := by unfold pickR; rw [List.find?_cons_of_neg (by simpa using hm)]
      rw [hp]
      refine Ev.step (fun k => ?_) next
      show prompterref07_sign.l0 (k + 1) s _ _ _ = _
      rw [prompterref07_sign.l0, if_pos q1, if_pos q2, rd_signs Z j g hget, ew]
      by_cases hle : ((i + g.length : Nat) : Int) ≤ (s.size : Int)
      · rw [if_pos hle, if_pos q4, if_pos q5, e3, e4, ext_list h, e5, if_neg hm, w1]
      · rw [if_neg hle, w1]
theorem refsign_is (s : ByteArray) (hs : s.size ≤ 16384) (i : Nat) (c : UInt8) (cs : List UInt8) (h : s.data.toList.drop i = c :: cs) : Ev (fun k => prompterref07_sign.f k s (i : Int)) (stepR i (sgn c cs)) := by
  have := sign_go signsR (by decide) (by decide) s hs i c cs h signsR 0 rfl (Nat.zero_le _)
  rw [pick_is] at this
  refine Ev.congr (fun k => ?_) this
  show prompterref07_sign.f k s _ = _
  rw [prompterref07_sign.f, signs_are]
  rfl

/-! ### One -/
theorem pack7 (o : Option Told7) : (o.bind fun q => some (q.1, q.2.1, q.2.2.1, q.2.2.2.1, q.2.2.2.2.1, q.2.2.2.2.2.1, q.2.2.2.2.2.2)) = o := by cases o <;> rfl
theorem refone_is (s : ByteArray) (hs : s.size ≤ 16384) (i : Nat) (c : UInt8) (cs : List UInt8) (h : s.data.toList.drop i = c :: cs) (h1 : ¬ (c.toNat = 32 ∨ c.toNat = 10)) (h2 : ¬ c.toNat = 35) : Ev (fun k => prompterref07_One.f k s (i : Int)) (stepR i (one (c :: cs))) := by
  obtain ⟨hb, hlt, hd⟩ := bt_get h
  rw [one, if_neg h1, if_neg h2]
  by_cases h3 : isLow c = true
  · rw [if_pos h3]
    refine Ev.congr (fun k => ?_) (word_is s hs i c cs h h3)
    show prompterref07_One.f k s _ = _
    rw [prompterref07_One.f, if_pos (by omega), if_pos (by omega), hb, low_is, h3]
    simp only [Option.bind_some, if_true]
    exact pack7 _
  rw [if_neg h3]
  have h3' : isLow c = false := Bool.eq_false_iff.mpr h3
  by_cases h4 : isDig c = true
  · rw [if_pos h4]
    refine Ev.congr (fun k => ?_) (refnum_is s hs i c cs h h4)
    show prompterref07_One.f k s _ = _
    rw [prompterref07_One.f, if_pos (by omega), if_pos (by omega), hb, low_is, h3', dig_is, h4]
    simp only [Option.bind_some, if_true, Bool.false_eq_true, if_false]
    exact pack7 _
  rw [if_neg h4]
  have h4' : isDig c = false := Bool.eq_false_iff.mpr h4
  by_cases h5 : c.toNat = 34
  · rw [if_pos h5]
    refine Ev.congr (fun k => ?_) (reftext_is s hs i c cs h)
    show prompterref07_One.f k s _ = _
    rw [prompterref07_One.f, if_pos (by omega), if_pos (by omega), hb, low_is, h3', dig_is, h4']
    simp only [Option.bind_some, Bool.false_eq_true, if_false]
    rw [if_pos (by omega)]
    exact pack7 _
  · rw [if_neg h5]
    refine Ev.congr (fun k => ?_) (refsign_is s hs i c cs h)
    show prompterref07_One.f k s _ = _
    rw [prompterref07_One.f, if_pos (by omega), if_pos (by omega), hb, low_is, h3', dig_is, h4']
    simp only [Option.bind_some, Bool.false_eq_true, if_false]
    rw [if_neg (by omega)]
    exact pack7 _

/-! ### Skip -/
def skp : Bool → List UInt8 → Nat
  | _, [] => 0
  | b, c :: cs => if c.toNat = 10 then 1 + skp false cs else if c.toNat = 35 then 1 + skp true cs else if b = true then 1 + skp b cs else if c.toNat = 32 then 1 + skp b cs else 0
theorem skp_le : ∀ (b : Bool) (cs : List UInt8), skp b cs ≤ cs.length
  | _, [] => Nat.le_refl _
  | b, c :: cs => by
    have h1 := skp_le false cs
    have h2 := skp_le true cs
    have h3 := skp_le b cs
    rw [skp, List.length_cons]
    repeat' split
    all_goals omega
theorem skip_go (s : ByteArray) (hs : s.size ≤ 16384) : ∀ (cs : List UInt8) (i : Nat) (b : Bool), s.data.toList.drop i = cs → i ≤ s.size → Ev (fun k => prompterref07_Skip.l0 k s (i : Int) b) ((i + skp b cs : Nat) : Int)
  | [], i, b, h, hi => by
    refine Ev.step (f := fun _ => some _) (fun k => ?_) (Ev.now _)
    show prompterref07_Skip.l0 (k + 1) s _ _ = _
    rw [prompterref07_Skip.l0, if_neg (drop_nil h)]
    rfl
  | c :: cs, i, b, h, hi => by
    obtain ⟨hb, hlt, hd⟩ := bt_get h
    have w1 : wrap64 ((i : Int) + 1) = ((i + 1 : Nat) : Int) := w64 (by omega) (by omega)
    have go : ∀ b', ((i + (1 + skp b' cs) : Nat) : Int) = ((i + 1 + skp b' cs : Nat) : Int) := fun b' => by omega
    rw [skp]
    by_cases h1 : c.toNat = 10
    · rw [if_pos h1, go]
      refine Ev.step (fun k => ?_) (skip_go s hs cs (i + 1) false hd (by omega))
      show prompterref07_Skip.l0 (k + 1) s _ _ = _
      rw [prompterref07_Skip.l0, if_pos (by omega), if_pos (by omega), hb, if_pos (by omega), w1]
    rw [if_neg h1]
    by_cases h2 : c.toNat = 35
    · rw [if_pos h2, go]
      refine Ev.step (fun k => ?_) (skip_go s hs cs (i + 1) true hd (by omega))
      show prompterref07_Skip.l0 (k + 1) s _ _ = _
      rw [prompterref07_Skip.l0, if_pos (by omega), if_pos (by omega), hb, if_neg (by omega), if_pos (by omega), w1]
    rw [if_neg h2]
    by_cases h3 : b = true
    · rw [if_pos h3, go]
      refine Ev.step (fun k => ?_) (skip_go s hs cs (i + 1) b hd (by omega))
      show prompterref07_Skip.l0 (k + 1) s _ _ = _
      rw [prompterref07_Skip.l0, if_pos (by omega), if_pos (by omega), hb, if_neg (by omega), if_neg (by omega), if_pos h3, w1]
    rw [if_neg h3]
    by_cases h4 : c.toNat = 32
    · rw [if_pos h4, go]
      refine Ev.step (fun k => ?_) (skip_go s hs cs (i + 1) b hd (by omega))
      show prompterref07_Skip.l0 (k + 1) s _ _ = _
      rw [prompterref07_Skip.l0, if_pos (by omega), if_pos (by omega), hb, if_neg (by omega), if_neg (by omega), if_neg h3, if_pos (by omega), w1]
    · rw [if_neg h4]
      refine Ev.step (f := fun _ => some _) (fun k => ?_) (Ev.now _)
      show prompterref07_Skip.l0 (k + 1) s _ _ = _
      rw [prompterref07_Skip.l0, if_pos (by omega), if_pos (by omega), hb, if_neg (by omega), if_neg (by omega), if_neg h3, if_neg (by omega)]
      rfl
/-- Inside a remark: up to its line's end, then on. -/
theorem skp_true : ∀ cs : List UInt8, skp true cs = (cs.takeWhile fun d => decide (d.toNat ≠ 10)).length + skp false (cs.drop (cs.takeWhile fun d => decide (d.toNat ≠ 10)).length)
  | [] => rfl
  | c :: cs => by
    have ih := skp_true cs
    by_cases h1 : c.toNat = 10
    · rw [List.takeWhile_cons_of_neg (by simp [h1])]
      simp [skp, h1]
    · rw [List.takeWhile_cons_of_pos (by simp [h1]), List.length_cons, List.drop_succ_cons, skp, if_neg h1, if_pos rfl, ih]
      split <;> omega
theorem lx_skp : ∀ (n : Nat) (cs : List UInt8) (p : Nat) (acc : List LTok), cs.length < n → lx cs p acc = lx (cs.drop (skp false cs)) (p + skp false cs) acc
  | 0, _, _, _, h => absurd h (Nat.not_lt_zero _)
  | n + 1, [], p, acc, h => rfl
  | n + 1, c :: cs, p, acc, h => by
    have hn : cs.length < n := by simpa using h
    by_cases h1 : c.toNat = 10
    · rw [lx_skip (n := 1) (by rw [one, if_pos (.inr h1)]), List.drop_succ_cons, List.drop_zero, lx_skp n cs _ _ hn, skp, if_pos h1, Nat.add_comm 1, List.drop_succ_cons]
      congr 1
      omega
    by_cases h4 : c.toNat = 32
    · rw [lx_skip (n := 1) (by rw [one, if_pos (.inl h4)]), List.drop_succ_cons, List.drop_zero, lx_skp n cs _ _ hn, skp, if_neg h1, if_neg (by omega), if_neg (by decide), if_pos h4, Nat.add_comm 1, List.drop_succ_cons]
      congr 1
      omega
    by_cases h2 : c.toNat = 35
    · have hle := takeWhile_le (fun d => decide (d.toNat ≠ 10)) cs
      rw [lx_skip (n := 1 + (cs.takeWhile fun d => decide (d.toNat ≠ 10)).length) (by rw [one, if_neg (by omega), if_pos h2]), Nat.add_comm 1, List.drop_succ_cons, lx_skp n _ _ _ (by rw [List.length_drop]; omega)]
      rw [skp, if_neg h1, if_pos h2, skp_true, Nat.add_comm 1, List.drop_succ_cons, List.drop_drop]
      congr 1
      omega
    · rw [skp, if_neg h1, if_neg h2, if_neg (by decide), if_neg h4]
      rfl
theorem skp_done : ∀ (cs : List UInt8) (c : UInt8) (l : List UInt8), cs.drop (skp false cs) = c :: l → ¬ (c.toNat = 32 ∨ c.toNat = 10) ∧ ¬ c.toNat = 35 := by
  have key : ∀ (n : Nat) (b : Bool) (cs : List UInt8) (c : UInt8) (l : List UInt8), cs.length < n → cs.drop (skp b cs) = c :: l → ¬ (c.toNat = 32 ∨ c.toNat = 10) ∧ ¬ c.toNat = 35 := by
    intro n
    induction n with
    | zero => intro _ _ _ _ h; exact absurd h (Nat.not_lt_zero _)
    | succ n ih =>
      intro b cs c l hn h
      cases cs with
      | nil => simp at h
      | cons d cs =>
        have hn' : cs.length < n := by simpa using hn
        rw [skp] at h
        split at h
        · rw [Nat.add_comm, List.drop_succ_cons] at h; exact ih _ _ _ _ hn' h
        split at h
        · rw [Nat.add_comm, List.drop_succ_cons] at h; exact ih _ _ _ _ hn' h
        split at h
        · rw [Nat.add_comm, List.drop_succ_cons] at h; exact ih _ _ _ _ hn' h
        split at h
        · rw [Nat.add_comm, List.drop_succ_cons] at h; exact ih _ _ _ _ hn' h
        · rw [List.drop_zero] at h
          injection h with h1 h2
          subst h1
          omega
  exact fun cs c l h => key (cs.length + 1) false cs c l (by omega) h
theorem one_noskip {c : UInt8} {cs : List UInt8} {n : Nat} (h1 : ¬ (c.toNat = 32 ∨ c.toNat = 10)) (h2 : ¬ c.toNat = 35) : one (c :: cs) ≠ .skip n := by
  rw [one, if_neg h1, if_neg h2]
  split
  · split <;> simp
  split
  · exact num_kind
  split
  · exact text_ne
  unfold sgn
  repeat' split
  all_goals simp
theorem one_bad2 {c : UInt8} {cs : List UInt8} {o e : Nat} (h : one (c :: cs) = .bad o e) : e ≠ 0 := by
  rw [one] at h
  split at h
  · cases h
  split at h
  · cases h
  split at h
  · split at h
    · cases h; decide
    · cases h
  split at h
  · exact num_bad h
  split at h
  · exact text_bad (by simp) h
  unfold sgn at h
  split at h
  · split at h <;> (cases h; decide)
  split at h
  · cases h; decide
  split at h <;> cases h
/-- All, from a place that holds no blank. -/
theorem refall_go (s : ByteArray) (hs : s.size ≤ 16384) : ∀ (n : Nat) (cs : List UInt8) (i : Nat) (acc : List LTok), cs.length < n → s.data.toList.drop i = cs → i ≤ s.size → acc.length ≤ i →
    (∀ c l, cs = c :: l → ¬ (c.toNat = 32 ∨ c.toNat = 10) ∧ ¬ c.toNat = 35) →
    Ev (fun k => prompterref07_All.l0 k s (acc.map LTok.S) (i : Int)) (told (lx cs i acc))
  | 0, _, _, _, h, _, _, _, _ => absurd h (Nat.not_lt_zero _)
  | n + 1, [], i, acc, hn, h, hi, ha, hc => by
    refine Ev.step (f := fun _ => some (acc.map LTok.S, 0, 0)) (fun k => ?_) (Ev.now _)
    show prompterref07_All.l0 (k + 1) s _ _ = _
    rw [prompterref07_All.l0, if_neg (drop_nil h)]
  | n + 1, c :: cs, i, acc, hn, h, hi, ha, hc => by
    obtain ⟨hb, hlt, hd⟩ := bt_get h
    have hsz := drop_len h hi
    obtain ⟨c1, c2⟩ := hc c cs rfl
    refine Ev.step (f := fun k => (prompterref07_One.f k s (i : Int)).bind fun bt279 => (if bt279.2.2.2.2.2.2 = 0 then (if (acc.map LTok.S).length < 3518437208883 then ((prompterref07_Skip.f k s bt279.2.2.2.2.1).bind fun t290 => (prompterref07_All.l0 k s (acc.map LTok.S ++ [(⟨bt279.1, bt279.2.1, bt279.2.2.1, bt279.2.2.2.1⟩ : S33)]) t290)) else (none)) else (some (([] : List (S33)), bt279.2.2.2.2.2.1, bt279.2.2.2.2.2.2)))) (fun k => ?_) (Ev.bind (refone_is s hs i c cs h c1 c2) ?_)
    · show prompterref07_All.l0 (k + 1) s _ _ = _
      rw [prompterref07_All.l0, if_pos (by omega)]
    cases ho : one (c :: cs) with
    | skip m => exact absurd ho (one_noskip c1 c2)
    | bad o e =>
      have he := one_bad2 ho
      rw [lx_bad ho]
      refine Ev.congr (f := fun _ => some _) (fun k => ?_) (Ev.now _)
      exact (if_neg (show ¬ (e : Int) = 0 by omega)).trans (by simp [stepR, told])
    | tok kd t v m =>
      obtain ⟨m1, m2⟩ := one_tok ho
      rw [lx_tok ho]
      have hdr : s.data.toList.drop (i + m) = (c :: cs).drop m := by rw [← List.drop_drop, h]
      have hlen : ((c :: cs).drop m).length < n := by rw [List.length_drop]; simp at hn m2 ⊢; omega
      have hsk := skip_go s hs ((c :: cs).drop m) (i + m) false hdr (by omega)
      have hle := skp_le false ((c :: cs).drop m)
      rw [List.length_drop] at hle
      rw [lx_skp _ _ _ _ (Nat.lt_succ_self _)]
      have := refall_go s hs n (((c :: cs).drop m).drop (skp false ((c :: cs).drop m))) (i + m + skp false ((c :: cs).drop m)) (acc ++ [⟨kd, t, v, i⟩]) (by rw [List.length_drop]; omega) (by rw [← List.drop_drop, hdr]) (by omega) (by simp; omega) (fun c l e => skp_done _ c l e)
      refine Ev.congr (f := fun k => (prompterref07_Skip.f k s ((i + m : Nat) : Int)).bind fun t290 => prompterref07_All.l0 k s ((acc ++ [(⟨kd, t, v, i⟩ : LTok)]).map LTok.S) t290) (fun k => ?_) (Ev.bind hsk this)
      refine (if_pos rfl).trans ?_
      rw [if_pos (by rw [List.length_map]; omega)]
      simp only [stepR, List.map_append, List.map_cons, List.map_nil]
      rfl
/-- prompterref07.All answers what the lexer says. -/
theorem refall_is (s : ByteArray) : Ev (fun k => prompterref07_All.f k s) (told (lexAll s.data.toList)) := by
  have e : s.data.toList.length = s.size := by simp
  by_cases h : 16384 < s.size
  · unfold lexAll
    rw [e, if_pos h]
    refine Ev.congr (fun k => ?_) (Ev.now _)
    show prompterref07_All.f k s = _
    rw [prompterref07_All.f, if_pos (by omega)]
    rfl
  · have hlx : lexAll s.data.toList = lx s.data.toList 0 [] := by unfold lexAll lx; rw [e, if_neg h]
    have hle := skp_le false s.data.toList
    rw [hlx, lx_skp _ _ _ _ (Nat.lt_succ_self _), Nat.zero_add]
    have hsk := skip_go s (by omega) s.data.toList 0 false (by simp) (by omega)
    rw [Nat.zero_add] at hsk
    have := refall_go s (by omega) (s.size + 1) (s.data.toList.drop (skp false s.data.toList)) (skp false s.data.toList) [] (by rw [List.length_drop]; omega) rfl (by omega) (by simp) (fun c l e => skp_done _ c l e)
    refine Ev.congr (f := fun k => (prompterref07_Skip.f k s 0).bind fun t278 => prompterref07_All.l0 k s [] t278) (fun k => ?_) (Ev.bind hsk this)
    show prompterref07_All.f k s = _
    rw [prompterref07_All.f, if_neg (by omega)]
end Go.Proofs.Ytlbchdalimngjaa.Lex
