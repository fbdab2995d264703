/- Proved here: a number's walk in prompterref07 is what the lexer over lists of bytes says (no condition). -/
import Derived.Test.YtlbchdalimngjaaXRefa
namespace Go.Proofs.Ytlbchdalimngjaa.Lex
open Go.RowKit Go.Proofs.YtlbchdalimngjaaW.PrintWords Go.Proofs.YtlbchdalimngjaaW.PrintLast Go.Proofs.Ytlbchdalimngjaa.P
set_option linter.unusedVariables false
set_option linter.unusedSimpArgs false

theorem all_digits (l : List UInt8) : ∀ d ∈ l.takeWhile isDig, isDig d = true := fun d hd => by
  induction l with
  | nil => cases hd
  | cons c l ih =>
    by_cases h : isDig c = true
    · rw [List.takeWhile_cons_of_pos h] at hd
      rcases List.mem_cons.1 hd with rfl | hd
      · exact h
      · exact ih hd
    · rw [List.takeWhile_cons_of_neg h] at hd; cases hd
theorem num_digits (s : ByteArray) (hs : s.size ≤ 16384) (i : Nat) (r : Told7) : ∀ (cs : List UInt8) (n : Nat), s.data.toList.drop (i + n) = cs → i + n ≤ s.size →
    Ev (fun k => prompterref07_number.j1 k s (i : Int) ((i + (n + (cs.takeWhile isDig).length) : Nat) : Int)) r → Ev (fun k => prompterref07_number.l0 k s (i : Int) ((i + n : Nat) : Int)) r
  | [], n, h, hi, hr => by
    refine Ev.step (fun k => ?_) hr
    show prompterref07_number.l0 (k + 1) s _ _ = _
    rw [prompterref07_number.l0, if_neg (drop_nil h)]
    rfl
  | c :: cs, n, h, hi, hr => by
    obtain ⟨hb, hlt, hd⟩ := bt_get h
    by_cases hc : isDig c = true
    · rw [List.takeWhile_cons_of_pos hc, List.length_cons] at hr
      have := num_digits s hs i r cs (n + 1) hd (by omega) (by rw [show n + 1 + (cs.takeWhile isDig).length = n + ((cs.takeWhile isDig).length + 1) by omega]; exact hr)
      refine Ev.step (fun k => ?_) this
      show prompterref07_number.l0 (k + 1) s _ _ = _
      rw [prompterref07_number.l0, if_pos (by omega), if_pos (by omega), hb, dig_is, hc, w64 (by omega) (by omega)]
      rfl
    · rw [List.takeWhile_cons_of_neg hc] at hr
      refine Ev.step (fun k => ?_) hr
      show prompterref07_number.l0 (k + 1) s _ _ = _
      rw [prompterref07_number.l0, if_pos (by omega), if_pos (by omega), hb, dig_is]
      simp only [Option.bind_some]
      rw [if_neg hc]
      rfl
theorem val_step {v c : Nat} (d1 : 48 ≤ c) (d2 : c ≤ 57) (hm : 10 * v + (c - 48) ≤ 9223372036854775807) : wrap64 (wrap64 (10 * (v : Int)) + ((c : Int) - 48) % 256) = ((10 * v + (c - 48) : Nat) : Int) := by
  have a : wrap64 (10 * (v : Int)) = 10 * (v : Int) := by unfold wrap64; omega
  have b : ((c : Int) - 48) % 256 = (c : Int) - 48 := by omega
  rw [a, b]
  have d : wrap64 (10 * (v : Int) + ((c : Int) - 48)) = 10 * (v : Int) + ((c : Int) - 48) := by unfold wrap64; omega
  rw [d]
  omega
/-- The value, digit by digit. -/
theorem num_value (s : ByteArray) (hs : s.size ≤ 16384) (i : Nat) (ds : List UInt8) (hv : digVal ds ≤ maxI) (hdig : ∀ d ∈ ds, isDig d = true) : ∀ (q p rest : List UInt8), ds = p ++ q → s.data.toList.drop (i + p.length) = q ++ rest →
    Ev (fun k => prompterref07_number.l1 k s (i : Int) ((i + ds.length : Nat) : Int) ((digVal p : Nat) : Int) ((i + p.length : Nat) : Int)) (2, (⟨#[]⟩ : ByteArray), ((digVal ds : Nat) : Int), (i : Int), ((i + ds.length : Nat) : Int), 0, 0)
  | [], p, rest, h, hd => by
    have : p = ds := by rw [h]; simp
    subst this
    clear hv
    refine Ev.step (f := fun _ => some _) (fun k => ?_) (Ev.now _)
    show prompterref07_number.l1 (k + 1) s _ _ _ _ = _
    rw [prompterref07_number.l1, if_neg (by omega)]
  | c :: q, p, rest, h, hd => by
    obtain ⟨hb, hlt, hd2⟩ := bt_get hd
    have h2 : ds = (p ++ [c]) ++ q := by rw [h]; simp
    have := num_value s hs i ds hv hdig q (p ++ [c]) rest h2 (by rw [List.length_append, List.length_singleton, ← Nat.add_assoc]; exact hd2)
    refine Ev.step (fun k => ?_) this
    show prompterref07_number.l1 (k + 1) s _ _ _ _ = _
    have e1 : wrap64 (wrap64 (10 * ((digVal p : Nat) : Int)) + ((c.toNat : Int) - 48) % 256) = ((digVal (p ++ [c]) : Nat) : Int) := by
      have hm := digVal_mono (p ++ [c]) q
      obtain ⟨d1, d2⟩ := dig_bounds (hdig c (by rw [h]; simp))
      rw [← h2, digVal_snoc] at hm
      rw [digVal_snoc]
      exact val_step d1 d2 (Nat.le_trans hm hv)
    clear hv
    have hl : ds.length = p.length + q.length + 1 := by rw [h]; simp; omega
    have e2 : wrap64 (((i + p.length : Nat) : Int) + 1) = ((i + (p ++ [c]).length : Nat) : Int) := by rw [w64 (by omega) (by omega), List.length_append, List.length_singleton]; omega
    rw [prompterref07_number.l1, if_pos (by omega), if_pos (by omega), if_pos (by omega), hb, e1, e2]
def maxDs : List UInt8 := [57, 50, 50, 51, 51, 55, 50, 48, 51, 54, 56, 53, 52, 55, 55, 53, 56, 48, 55]
theorem big_many (c : UInt8) (ds : List UInt8) (hc : isDig c = true) (h0 : c ≠ 48) (h : 19 ≤ ds.length) : maxI < digVal (c :: ds) := by
  rw [digVal_cons]
  obtain ⟨d1, d2⟩ := dig_bounds hc
  have h1 : 1 ≤ c.toNat - 48 := by
    rcases Nat.lt_or_ge 48 c.toNat with h | h
    · omega
    · exact absurd (UInt8.toNat_inj.mp (show c.toNat = (48 : UInt8).toNat by show c.toNat = 48; omega)) h0
  have h2 : 10 ^ 19 ≤ 10 ^ ds.length := Nat.pow_le_pow_right (by decide) h
  have h3 : 1 * 10 ^ ds.length ≤ (c.toNat - 48) * 10 ^ ds.length := Nat.mul_le_mul_right _ h1
  unfold maxI
  omega
theorem small_few (ds : List UInt8) (hd : ∀ d ∈ ds, isDig d = true) (h : ds.length ≤ 18) : digVal ds ≤ maxI := by
  have h1 := digVal_lt ds hd
  have h2 : 10 ^ ds.length ≤ 10 ^ 18 := Nat.pow_le_pow_right (by decide) h
  unfold maxI
  omega
theorem same_many (ds : List UInt8) (hd : ∀ d ∈ ds, isDig d = true) (h : ds.length = 19) : Op.bytesLess maxDs ds = decide (maxI < digVal ds) := by
  have := less_is maxDs ds (by rw [h]; rfl) (by decide) hd
  have e : digVal maxDs = maxI := by decide
  rw [e] at this
  by_cases hm : maxI < digVal ds
  · rw [decide_eq_true hm]; exact this.2 hm
  · rw [decide_eq_false hm]; exact Bool.eq_false_iff.mpr (fun x => hm (this.1 x))
theorem ext_list {s : ByteArray} {i : Nat} {l : List UInt8} (h : s.data.toList.drop i = l) (n : Nat) : (s.extract i (i + n)).toList = l.take n := by
  rw [ext_is h, ByteArray.toList_eq]
/-- A number is what the lexer says. -/
theorem refnum_is (s : ByteArray) (hs : s.size ≤ 16384) (i : Nat) (c : UInt8) (cs : List UInt8) (h : s.data.toList.drop i = c :: cs) (hc : isDig c = true) : Ev (fun k => prompterref07_number.f k s (i : Int)) (stepR i (num (c :: cs))) := by
  obtain ⟨hb, hlt, hd⟩ := bt_get h
  have hle := takeWhile_le isDig (c :: cs)
  have hsz := drop_len h (by omega)
  obtain ⟨ds, hds⟩ : ∃ ds, ds = (c :: cs).takeWhile isDig := ⟨_, rfl⟩
  have hdig : ∀ d ∈ ds, isDig d = true := by rw [hds]; exact all_digits _
  have hds1 : ds = c :: cs.takeWhile isDig := by rw [hds, List.takeWhile_cons_of_pos hc]
  have hpos : 1 ≤ ds.length := by rw [hds1]; simp
  have happ : c :: cs = ds ++ (c :: cs).drop ds.length := by rw [hds, ← takeWhile_take isDig (c :: cs), List.length_take, Nat.min_eq_left hle, List.take_append_drop]
  have hdrop : s.data.toList.drop (i + ds.length) = (c :: cs).drop ds.length := by rw [← List.drop_drop, h]
  have hdl : ds.length ≤ (c :: cs).length := by rw [hds]; exact hle
  obtain ⟨m, hm⟩ : ∃ m, m = ds.length := ⟨_, rfl⟩
  have hmz : i + m ≤ s.size := by omega
  have htake : (s.extract i (i + m)).toList = ds := by
    rw [ext_list h, hm, hds, takeWhile_take]
  have start : Ev (fun k => prompterref07_number.j1 k s (i : Int) ((i + m : Nat) : Int)) (stepR i (num (c :: cs))) → Ev (fun k => prompterref07_number.f k s (i : Int)) (stepR i (num (c :: cs))) := by
    intro hr
    have := num_digits s hs i (stepR i (num (c :: cs))) (c :: cs) 0 h (by omega) (by rw [← hds, ← hm, Nat.zero_add]; exact hr)
    exact this
  refine start ?_
  clear start
  have e1 : wrap64 ((i : Int) + 1) = ((i + 1 : Nat) : Int) := w64 (by omega) (by omega)
  have e2 : wrap64 (((i + m : Nat) : Int) - (i : Int)) = (m : Int) := by rw [w64b (by omega) (by omega)]; omega
  have e3 : (((i : Int)).toNat = i) := rfl
  have e4 : (((i + m : Nat) : Int)).toNat = i + m := rfl
  -- the leading nought
  refine Ev.step (f := fun k => prompterref07_number.j2 k s (i : Int) ((i + m : Nat) : Int) (decide (c = 48 ∧ 1 < m))) (fun k => ?_) ?_
  · show prompterref07_number.j1 (k + 1) s _ _ = _
    rw [prompterref07_number.j1, if_pos (by omega), if_pos (by omega), hb, e1]
    by_cases h0 : c = 48
    · rw [if_pos (by rw [h0]; rfl)]
      congr 1
      exact decide_eq_decide.2 (by constructor <;> intro x <;> first | exact ⟨h0, by omega⟩ | (have := x.2; omega))
    · have : c.toNat ≠ 48 := fun e => h0 (u8_eq (by decide) e)
      rw [if_neg (by omega), decide_eq_false (fun x => h0 x.1)]
  have hnum : num (c :: cs) = (if c = 48 ∧ 1 < m then .bad 1 9 else if maxI < digVal ds then .bad 0 2 else match ((c :: cs).drop ds.length).head? with
    | some c => if isInn c = true then .bad ds.length 9 else .tok 2 [] (digVal ds) ds.length
    | none => .tok 2 [] (digVal ds) ds.length) := by
    unfold num
    rw [← hds, hm]
    simp only [List.head?_cons, Option.some.injEq]
    rfl
  rw [hnum]
  by_cases hz : c = 48 ∧ 1 < m
  · rw [decide_eq_true hz, if_pos hz]
    refine Ev.step (f := fun _ => some _) (fun k => ?_) (Ev.now _)
    show prompterref07_number.j2 (k + 1) s _ _ _ = _
    rw [prompterref07_number.j2, if_pos rfl, e1, wrong_is]
    simp [stepR]
  rw [decide_eq_false hz, if_neg hz]
  -- too big?
  refine Ev.step (f := fun k => prompterref07_number.j3 k s (i : Int) ((i + m : Nat) : Int) (decide (maxI < digVal ds))) (fun k => ?_) ?_
  · show prompterref07_number.j2 (k + 1) s _ _ _ = _
    rw [prompterref07_number.j2, if_neg (by decide), e2]
    by_cases g1 : 19 < m
    · rw [if_pos (by omega)]
      have h0 : c ≠ 48 := fun e => hz ⟨e, by omega⟩
      have : maxI < digVal ds := by rw [hds1]; exact big_many c _ hc h0 (by rw [hds1] at hm; simp at hm; omega)
      rw [decide_eq_true this]
    rw [if_neg (by omega)]
    by_cases g2 : m = 19
    · rw [if_pos (by omega), if_pos (by omega), if_pos (by omega), if_pos (by omega), e3, e4, htake]
      rw [← same_many ds hdig (by omega)]
      rfl
    · rw [if_neg (by omega)]
      have := small_few ds hdig (by omega)
      rw [decide_eq_false (by omega)]
  by_cases hbig : maxI < digVal ds
  · rw [decide_eq_true hbig, if_pos hbig]
    refine Ev.step (f := fun _ => some _) (fun k => ?_) (Ev.now _)
    show prompterref07_number.j3 (k + 1) s _ _ _ = _
    rw [prompterref07_number.j3, if_pos rfl, wrong_is]
    simp [stepR]
  rw [decide_eq_false hbig, if_neg hbig]
  have val : Ev (fun k => prompterref07_number.j4 k s (i : Int) ((i + m : Nat) : Int) false) (stepR i (.tok 2 [] (digVal ds) ds.length)) := by
    have := num_value s hs i ds (by omega) hdig ds [] ((c :: cs).drop ds.length) rfl (by simpa using h.trans happ)
    rw [← hm] at this ⊢
    refine Ev.step (fun k => ?_) this
    show prompterref07_number.j4 (k + 1) s _ _ _ = _
    rw [prompterref07_number.j4, if_neg (by decide)]
    rfl
  have fault : Ev (fun k => prompterref07_number.j4 k s (i : Int) ((i + m : Nat) : Int) true) (stepR i (.bad ds.length 9)) := by
    refine Ev.step (f := fun _ => some _) (fun k => ?_) (Ev.now _)
    show prompterref07_number.j4 (k + 1) s _ _ _ = _
    rw [prompterref07_number.j4, if_pos rfl, wrong_is, hm]
    simp [stepR]
  rw [← hm] at hdrop val fault ⊢
  cases hrest : (c :: cs).drop m with
  | nil =>
    rw [hrest] at hdrop
    have := drop_nil hdrop
    refine Ev.step (fun k => ?_) val
    show prompterref07_number.j3 (k + 1) s _ _ _ = _
    rw [prompterref07_number.j3, if_neg (by decide), if_neg this]
  | cons d l =>
    rw [hrest] at hdrop
    obtain ⟨hb2, hlt2, hd2⟩ := bt_get hdrop
    have hnd : isDig d = false := by
      have : (c :: cs).drop ((c :: cs).takeWhile isDig).length = (c :: cs).dropWhile isDig := by
        have := List.takeWhile_append_dropWhile (p := isDig) (l := c :: cs)
        conv => lhs; arg 2; rw [← this]
        rw [List.drop_left]
      rw [← hds, ← hm, hrest] at this
      have h2 := List.head?_dropWhile_not isDig (c :: cs)
      rw [← this] at h2
      simpa using h2
    simp only [List.head?_cons]
    have hin : isInn d = (isLow d || decide (d.toNat = 95)) := by unfold isInn; rw [hnd]; simp
    by_cases hl : isLow d = true
    · rw [hin, hl, Bool.true_or, if_pos rfl]
      refine Ev.step (fun k => ?_) fault
      show prompterref07_number.j3 (k + 1) s _ _ _ = _
      rw [prompterref07_number.j3, if_neg (by decide), if_pos (by omega), if_pos (by omega), hb2, low_is, hl]
      rfl
    · have hl' : isLow d = false := Bool.eq_false_iff.mpr hl
      rw [hin, hl', Bool.false_or]
      by_cases h95 : d.toNat = 95
      · rw [if_pos (decide_eq_true h95)]
        refine Ev.step (fun k => ?_) fault
        show prompterref07_number.j3 (k + 1) s _ _ _ = _
        rw [prompterref07_number.j3, if_neg (by decide), if_pos (by omega), if_pos (by omega), hb2, low_is, hl']
        simp only [Option.bind_some, Bool.false_eq_true, if_false]
        rw [show ((d.toNat : Int) == 95) = true by simp; omega]
      · rw [if_neg (by simp [h95])]
        refine Ev.step (fun k => ?_) val
        show prompterref07_number.j3 (k + 1) s _ _ _ = _
        rw [prompterref07_number.j3, if_neg (by decide), if_pos (by omega), if_pos (by omega), hb2, low_is, hl']
        simp only [Option.bind_some, Bool.false_eq_true, if_false]
        rw [show ((d.toNat : Int) == 95) = false by simp; omega]
end Go.Proofs.Ytlbchdalimngjaa.Lex
