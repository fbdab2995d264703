/- Proved here: what the parts of prompterref07.One compute is what the lexer over lists of bytes says: words, numbers (no condition). -/
import Derived.Test.YtlbchdalimngjaaXLexc
import Derived.Test.YtlbchdalimngjaaPx5
import Derived.Test.YtlbchdalimngjaaPx6
namespace Go.Proofs.Ytlbchdalimngjaa.Lex
open Go.RowKit Go.Proofs.YtlbchdalimngjaaW.PrintWords Go.Proofs.YtlbchdalimngjaaW.PrintLast Go.Proofs.Ytlbchdalimngjaa.P
set_option linter.unusedVariables false
set_option linter.unusedSimpArgs false

abbrev Told7 := Int × ByteArray × Int × Int × Int × Int × Int
/-- What prompterref07 answers for a step at i. -/
def stepR (i : Int) : Step → Told7
  | .tok kd tx v n => ((kd : Int), ⟨tx.toArray⟩, (v : Int), i, i + n, 0, 0)
  | .bad o e => (0, ⟨#[]⟩, 0, 0, 0, i + o, (e : Int))
  | .skip _ => (0, ⟨#[]⟩, 0, 0, 0, 0, 0)
theorem low_is (c : UInt8) : prompterref07_low.f (c.toNat : Int) = some (isLow c) := by
  unfold prompterref07_low.f isLow
  split
  · rw [decide_eq_true (show 97 ≤ c.toNat by omega), Bool.true_and]
    congr 1
    exact decide_eq_decide.2 (by omega)
  · rw [decide_eq_false (show ¬ 97 ≤ c.toNat by omega), Bool.false_and]
theorem dig_is (c : UInt8) : prompterref07_dig.f (c.toNat : Int) = some (isDig c) := by
  unfold prompterref07_dig.f isDig
  split
  · rw [decide_eq_true (show 48 ≤ c.toNat by omega), Bool.true_and]
    congr 1
    exact decide_eq_decide.2 (by omega)
  · rw [decide_eq_false (show ¬ 48 ≤ c.toNat by omega), Bool.false_and]
theorem wrong_is (a b : Int) : prompterref07_wrong.f a b = some (0, (⟨#[]⟩ : ByteArray), 0, 0, 0, a, b) := rfl
/-- A word from i, of n bytes. -/
def wordR (s : ByteArray) (i n : Nat) : Told7 := if 24 < n then (0, ⟨#[]⟩, 0, 0, 0, (i : Int), 2) else (1, s.extract i (i + n), 0, (i : Int), ((i + n : Nat) : Int), 0, 0)
theorem word_end (s : ByteArray) (hs : s.size ≤ 16384) (i n : Nat) (h : i + n ≤ s.size) : (if (wrap64 (((i + n : Nat) : Int) - (i : Int))) > 24 then ((prompterref07_wrong.f (i : Int) 2).bind fun bt130 => (some (bt130.1, bt130.2.1, bt130.2.2.1, bt130.2.2.2.1, bt130.2.2.2.2.1, bt130.2.2.2.2.2.1, bt130.2.2.2.2.2.2))) else (if 0 ≤ (i : Int) then (if (i : Int) ≤ ((i + n : Nat) : Int) then (if ((i + n : Nat) : Int) ≤ (s.size : Int) then (some (1, s.extract ((i : Int)).toNat (((i + n : Nat) : Int)).toNat, 0, (i : Int), ((i + n : Nat) : Int), 0, 0)) else (none)) else (none)) else (none))) = some (wordR s i n) := by
  have e1 : wrap64 (((i + n : Nat) : Int) - (i : Int)) = (n : Int) := by rw [w64b (by omega) (by omega)]; omega
  rw [e1, wordR]
  by_cases h1 : 24 < n
  · rw [if_pos (by omega), if_pos h1]; rfl
  · rw [if_neg (by omega), if_neg h1, if_pos (by omega), if_pos (by omega), if_pos (by omega)]; rfl
theorem word_go (s : ByteArray) (hs : s.size ≤ 16384) (i : Nat) : ∀ (cs : List UInt8) (n : Nat), s.data.toList.drop (i + n) = cs → i + n ≤ s.size → Ev (fun k => prompterref07_word.l0 k s (i : Int) ((i + n : Nat) : Int)) (wordR s i (n + (cs.takeWhile isInn).length))
  | [], n, h, hi => by
    refine Ev.step (f := fun _ => some (wordR s i n)) (fun k => ?_) (Ev.now _)
    show prompterref07_word.l0 (k + 1) s _ _ = _
    rw [prompterref07_word.l0, if_neg (drop_nil h)]
    exact word_end s hs i n hi
  | c :: cs, n, h, hi => by
    obtain ⟨hb, hlt, hd⟩ := bt_get h
    by_cases hc : isInn c = true
    · rw [List.takeWhile_cons_of_pos hc, List.length_cons, show n + ((cs.takeWhile isInn).length + 1) = n + 1 + (cs.takeWhile isInn).length by omega]
      refine Ev.step (fun k => ?_) (word_go s hs i cs (n + 1) hd (by omega))
      show prompterref07_word.l0 (k + 1) s _ _ = _
      rw [prompterref07_word.l0, if_pos (by omega), if_pos (by omega), hb, low_is, dig_is, w64 (by omega) (by omega)]
      simp only [Option.bind_some]
      unfold isInn at hc
      cases h1 : isLow c with
      | true => rw [if_pos rfl]; rfl
      | false =>
        rw [if_neg (by decide)]
        cases h2 : isDig c with
        | true => rw [if_pos rfl]; rfl
        | false =>
          rw [h1, h2] at hc
          have : c.toNat = 95 := by simpa using hc
          rw [if_neg (by decide), if_pos (by omega)]
          rfl
    · rw [List.takeWhile_cons_of_neg hc]
      refine Ev.step (f := fun _ => some (wordR s i n)) (fun k => ?_) (Ev.now _)
      show prompterref07_word.l0 (k + 1) s _ _ = _
      have hc' : isInn c = false := Bool.eq_false_iff.mpr hc
      unfold isInn at hc'
      simp only [Bool.or_eq_false_iff, decide_eq_false_iff_not] at hc'
      rw [prompterref07_word.l0, if_pos (by omega), if_pos (by omega), hb, low_is, dig_is, hc'.1.1, hc'.1.2]
      simp only [Option.bind_some, Bool.false_eq_true, if_false]
      rw [if_neg (by omega)]
      exact word_end s hs i n hi
/-- A word is what the lexer says. -/
theorem word_is (s : ByteArray) (hs : s.size ≤ 16384) (i : Nat) (c : UInt8) (cs : List UInt8) (h : s.data.toList.drop i = c :: cs) (hl : isLow c = true) :
    Ev (fun k => prompterref07_word.f k s (i : Int)) (stepR i (if 24 < 1 + (cs.takeWhile isInn).length then .bad 0 2 else .tok 1 (c :: cs.takeWhile isInn) 0 (1 + (cs.takeWhile isInn).length))) := by
  have hi : isInn c = true := by unfold isInn; rw [hl]; rfl
  obtain ⟨hb, hlt, hd⟩ := bt_get h
  have := word_go s hs i (c :: cs) 0 h (by omega)
  rw [List.takeWhile_cons_of_pos hi, List.length_cons, Nat.zero_add, Nat.add_comm _ 1] at this
  have e : wordR s i (1 + (cs.takeWhile isInn).length) = stepR i (if 24 < 1 + (cs.takeWhile isInn).length then .bad 0 2 else .tok 1 (c :: cs.takeWhile isInn) 0 (1 + (cs.takeWhile isInn).length)) := by
    unfold wordR
    split
    · simp [stepR]
    · rw [ext_is h, Nat.add_comm 1, List.take_succ_cons, takeWhile_take]
      simp [stepR]
  rw [← e]
  exact this

/-! ### Numbers -/
theorem fold_from (ds : List UInt8) : ∀ a : Nat, ds.foldl (fun a d => 10 * a + (d.toNat - 48)) a = a * 10 ^ ds.length + digVal ds := by
  induction ds with
  | nil => intro a; simp [digVal]
  | cons d ds ih =>
    intro a
    have e : digVal (d :: ds) = (10 * 0 + (d.toNat - 48)) * 10 ^ ds.length + digVal ds := by rw [digVal, List.foldl_cons, ih]
    rw [List.foldl_cons, ih, e, List.length_cons, Nat.pow_succ, Nat.mul_zero, Nat.zero_add, Nat.add_mul, Nat.add_assoc]
    congr 1
    rw [Nat.mul_comm 10 a, Nat.mul_assoc, Nat.mul_comm 10]
theorem digVal_cons (c : UInt8) (ds : List UInt8) : digVal (c :: ds) = (c.toNat - 48) * 10 ^ ds.length + digVal ds := by
  rw [digVal, List.foldl_cons, fold_from, Nat.mul_zero, Nat.zero_add]
theorem digVal_lt (ds : List UInt8) (h : ∀ d ∈ ds, isDig d = true) : digVal ds < 10 ^ ds.length := by
  induction ds with
  | nil => simp [digVal]
  | cons c p ih =>
    rw [digVal_cons, List.length_cons, Nat.pow_succ]
    have h1 := ih (fun d hd => h d (List.mem_cons_of_mem _ hd))
    obtain ⟨a, b⟩ := dig_bounds (h c List.mem_cons_self)
    have : (c.toNat - 48) * 10 ^ p.length ≤ 9 * 10 ^ p.length := Nat.mul_le_mul_right _ (by omega)
    omega
/-- Of as many digits, the order of bytes is the order of values. -/
theorem less_is : ∀ (a b : List UInt8), a.length = b.length → (∀ d ∈ a, isDig d = true) → (∀ d ∈ b, isDig d = true) → (Op.bytesLess a b = true ↔ digVal a < digVal b)
  | [], [], _, _, _ => by simp [Op.bytesLess, digVal]
  | x :: a, y :: b, hl, ha, hb => by
    have ih := less_is a b (by simpa using hl) (fun d hd => ha d (List.mem_cons_of_mem _ hd)) (fun d hd => hb d (List.mem_cons_of_mem _ hd))
    have la := digVal_lt a (fun d hd => ha d (List.mem_cons_of_mem _ hd))
    have lb := digVal_lt b (fun d hd => hb d (List.mem_cons_of_mem _ hd))
    obtain ⟨x1, x2⟩ := dig_bounds (ha x List.mem_cons_self)
    obtain ⟨y1, y2⟩ := dig_bounds (hb y List.mem_cons_self)
    have hlen : a.length = b.length := by simpa using hl
    rw [digVal_cons, digVal_cons, hlen]
    rw [hlen] at la
    generalize 10 ^ b.length = P at la lb ⊢
    rw [Op.bytesLess]
    by_cases h1 : x < y
    · have h2 : x.toNat < y.toNat := h1
      have h3 : (x.toNat - 48) * P + P ≤ (y.toNat - 48) * P := by
        rw [← Nat.succ_mul]; exact Nat.mul_le_mul_right _ (by omega)
      simp [h1]
      omega
    · have h2 : ¬ x.toNat < y.toNat := h1
      by_cases h3 : y < x
      · have h4 : y.toNat < x.toNat := h3
        have h5 : (y.toNat - 48) * P + P ≤ (x.toNat - 48) * P := by
          rw [← Nat.succ_mul]; exact Nat.mul_le_mul_right _ (by omega)
        have h6 : x ≠ y := fun e => by rw [e] at h4; omega
        simp [h1, h6]
        omega
      · have h4 : ¬ y.toNat < x.toNat := h3
        have h6 : x = y := UInt8.toNat_inj.mp (by omega)
        subst h6
        simp [h1, ih]
end Go.Proofs.Ytlbchdalimngjaa.Lex
