/- Proved here: plain laws of the lexer: more rounds change nothing, a place ahead is carried on, and what is lexed stays lexed when a new line follows (no condition). -/
import Derived.Test.YtlbchdalimngjaaXLexb
namespace Go.Proofs.Ytlbchdalimngjaa.Lex
open Go.RowKit Go.Proofs.YtlbchdalimngjaaW.PrintWords Go.Proofs.YtlbchdalimngjaaW.PrintLast Go.Proofs.Ytlbchdalimngjaa.P
set_option linter.unusedVariables false
set_option linter.unusedSimpArgs false

theorem toks_fuel : ∀ (n m : Nat) (cs : List UInt8) (p : Nat) (acc : List LTok), cs.length < n → cs.length < m → toks n cs p acc = toks m cs p acc
  | 0, _, _, _, _, h, _ => absurd h (Nat.not_lt_zero _)
  | _, 0, _, _, _, _, h => absurd h (Nat.not_lt_zero _)
  | n + 1, m + 1, [], p, acc, _, _ => rfl
  | n + 1, m + 1, c :: cs, p, acc, hn, hm => by
    rw [toks, toks]
    cases ho : one (c :: cs) with
    | skip k =>
      obtain ⟨h1, h2⟩ := one_skip ho
      exact toks_fuel n m _ _ _ (by simp at hn h2 ⊢; omega) (by simp at hm h2 ⊢; omega)
    | tok kd t v k =>
      obtain ⟨h1, h2⟩ := one_tok ho
      exact toks_fuel n m _ _ _ (by simp at hn h2 ⊢; omega) (by simp at hm h2 ⊢; omega)
    | bad o e => rfl
def LTok.shift (d : Nat) (t : LTok) : LTok := ⟨t.kind, t.text, t.val, t.pos + d⟩
/-- The tokens of a text that stands at a place, behind others. -/
def after (acc : List LTok) (d : Nat) : Except (Nat × Nat) (List LTok) → Except (Nat × Nat) (List LTok)
  | .ok l => .ok (acc ++ l.map (LTok.shift d))
  | .error (p, e) => .error (p + d, e)
theorem toks_after : ∀ (n : Nat) (cs : List UInt8) (p d : Nat) (acc acc2 : List LTok), toks n cs (p + d) (acc ++ acc2.map (LTok.shift d)) = after acc d (toks n cs p acc2)
  | 0, _, _, _, _, _ => rfl
  | n + 1, [], _, _, _, _ => rfl
  | n + 1, c :: cs, p, d, acc, acc2 => by
    rw [toks, toks]
    cases ho : one (c :: cs) with
    | skip k =>
      have := toks_after n ((c :: cs).drop k) (p + k) d acc acc2
      dsimp only
      rw [← this]
      congr 1
      omega
    | tok kd t v k =>
      have := toks_after n ((c :: cs).drop k) (p + k) d acc (acc2 ++ [⟨kd, t, v, p⟩])
      dsimp only
      rw [← this, List.map_append, List.append_assoc]
      congr 1
      omega
    | bad o e => simp [after]; omega
def lx (cs : List UInt8) (p : Nat) (acc : List LTok) : Except (Nat × Nat) (List LTok) := toks (cs.length + 1) cs p acc
theorem lx_at (cs : List UInt8) (d : Nat) (acc : List LTok) : lx cs d acc = after acc d (lx cs 0 []) := by
  have := toks_after (cs.length + 1) cs 0 d acc []
  simpa [lx] using this
theorem lx_nil (p : Nat) (acc : List LTok) : lx [] p acc = .ok acc := rfl
theorem lx_skip {c : UInt8} {cs : List UInt8} {n : Nat} (h : one (c :: cs) = .skip n) (p : Nat) (acc : List LTok) : lx (c :: cs) p acc = lx ((c :: cs).drop n) (p + n) acc := by
  obtain ⟨h1, h2⟩ := one_skip h
  unfold lx
  rw [toks, h]
  exact toks_fuel _ _ _ _ _ (by simp at h2 ⊢; omega) (by omega)
theorem lx_tok {c : UInt8} {cs t : List UInt8} {kd v n : Nat} (h : one (c :: cs) = .tok kd t v n) (p : Nat) (acc : List LTok) : lx (c :: cs) p acc = lx ((c :: cs).drop n) (p + n) (acc ++ [⟨kd, t, v, p⟩]) := by
  obtain ⟨h1, h2⟩ := one_tok h
  unfold lx
  rw [toks, h]
  exact toks_fuel _ _ _ _ _ (by simp at h2 ⊢; omega) (by omega)
theorem lx_bad {c : UInt8} {cs : List UInt8} {o e : Nat} (h : one (c :: cs) = .bad o e) (p : Nat) (acc : List LTok) : lx (c :: cs) p acc = .error (p + o, e) := by
  unfold lx
  rw [toks, h]

/-! ### A new line behind -/
theorem takeWhile_line (p : UInt8 → Bool) (h : p 10 = false) (cs rest : List UInt8) : (cs ++ 10 :: rest).takeWhile p = cs.takeWhile p := by
  induction cs with
  | nil => simp [h]
  | cons c cs ih =>
    rw [List.cons_append, List.takeWhile_cons, List.takeWhile_cons, ih]
theorem chr_line {l rest : List UInt8} {q : UInt8 × Nat} (h : chr l = .ok q) : chr (l ++ rest) = .ok q := by
  cases l with
  | nil => cases h
  | cons c l =>
    rw [List.cons_append]
    unfold chr at h ⊢
    dsimp only at h ⊢
    split at h
    · cases h
    rename_i h1
    rw [if_neg h1]
    split at h
    · rename_i h2; rw [if_pos h2]; exact h
    rename_i h2
    rw [if_neg h2]
    cases l with
    | nil => cases h
    | cons d l =>
      dsimp only [List.cons_append] at h ⊢
      split at h
      · rename_i h3; rw [if_pos h3]; exact h
      rename_i h3
      rw [if_neg h3]
      split at h
      · rename_i h4; rw [if_pos h4]; exact h
      rename_i h4
      rw [if_neg h4]
      split at h
      · cases h
      rename_i h5
      rw [if_neg h5]
      cases l with
      | nil => cases h
      | cons a l =>
        dsimp only [List.cons_append] at h ⊢
        cases ha : hexVal a with
        | none => rw [ha] at h; cases h
        | some x =>
          rw [ha] at h
          dsimp only at h ⊢
          cases l with
          | nil => cases h
          | cons b l => exact h
theorem text_line {n : Nat} {cs rest : List UInt8} {o : Nat} {out : List UInt8} {kd v m : Nat} {t : List UInt8} (hn : cs.length < n) (h : textGo n cs o out = .tok kd t v m) : ∀ n', cs.length < n' → textGo n' (cs ++ rest) o out = .tok kd t v m := by
  induction n generalizing cs o out with
  | zero => exact absurd hn (Nat.not_lt_zero _)
  | succ n ih =>
    intro n' hn'
    obtain ⟨n', rfl⟩ : ∃ x, n' = x + 1 := ⟨n' - 1, by omega⟩
    cases cs with
    | nil => simp [textGo] at h
    | cons c cs =>
      rw [textGo] at h
      rw [List.cons_append, textGo]
      by_cases hq : c.toNat = 34
      · rw [if_pos hq] at h ⊢; exact h
      rw [if_neg hq] at h ⊢
      generalize hc : chr (c :: cs) = q at h
      cases q with
      | error q => cases h
      | ok q =>
        obtain ⟨x, y⟩ := q
        rw [← List.cons_append, chr_line hc]
        obtain ⟨h1, h2⟩ := chr_ok hc
        dsimp only at h ⊢
        split at h
        · cases h
        · rename_i hl
          rw [if_neg hl, List.drop_append_of_le_length h2]
          simp at hn hn' h2
          exact ih (by simp; omega) h n' (by simp; omega)
theorem one_line {c : UInt8} {cs rest : List UInt8} (h : ∀ o e, one (c :: cs) ≠ .bad o e) : one (c :: cs ++ 10 :: rest) = one (c :: cs) := by
  rw [one] at h
  rw [List.cons_append, one, one]
  by_cases h1 : c.toNat = 32 ∨ c.toNat = 10
  · rw [if_pos h1, if_pos h1]
  rw [if_neg h1] at h ⊢
  rw [if_neg h1]
  by_cases h2 : c.toNat = 35
  · rw [if_pos h2, if_pos h2, takeWhile_line _ (by decide)]
  rw [if_neg h2] at h ⊢
  rw [if_neg h2, takeWhile_line isInn (by decide)]
  by_cases h3 : isLow c = true
  · rw [if_pos h3, if_pos h3]
  rw [if_neg h3] at h ⊢
  rw [if_neg h3]
  by_cases h4 : isDig c = true
  · rw [if_pos h4, if_pos h4]
    unfold num
    dsimp only
    rw [← List.cons_append, takeWhile_line isDig (by decide), List.drop_append_of_le_length (takeWhile_le _ _)]
    dsimp only [List.cons_append, List.head?_cons]
    cases hd : List.drop (List.takeWhile isDig (c :: cs)).length (c :: cs) with
    | nil =>
      rw [List.nil_append]
      dsimp only [List.head?_cons, List.head?_nil]
      rw [if_neg (by decide : ¬ isInn 10 = true)]
      rfl
    | cons a l => rfl
  rw [if_neg h4] at h ⊢
  rw [if_neg h4]
  by_cases h5 : c.toNat = 34
  · rw [if_pos h5] at h ⊢
    rw [if_pos h5]
    cases ho : textGo (c :: cs).length cs 1 [] with
    | skip n => exact absurd ho text_ne
    | bad o e => exact absurd ho (h o e)
    | tok kd t v m =>
      exact text_line (by simp) ho _ (by simp; omega)
  rw [if_neg h5] at h ⊢
  rw [if_neg h5]
  unfold sgn at h ⊢
  cases cs with
  | cons d cs => rfl
  | nil =>
    rw [List.nil_append]
    by_cases h6 : c.toNat = 33
    · exfalso
      refine h 1 4 ?_
      rw [if_pos ⟨h6, by simp⟩, if_pos rfl]
    · have n1 : ∀ o : Option UInt8, ¬ (c.toNat = 33 ∧ o ≠ some 61) := fun o x => h6 x.1
      rw [if_neg (n1 _), if_neg (n1 _)]
      by_cases h7 : c ∉ signs
      · rw [if_pos h7, if_pos h7]
      · rw [if_neg h7, if_neg h7, if_neg (by rintro ⟨_, b⟩; simp at b), if_neg (by rintro ⟨_, b⟩; simp at b)]
/-- What is lexed stays lexed when a new line follows. -/
theorem lx_line : ∀ (n : Nat) (cs rest : List UInt8) (p : Nat) (acc l : List LTok), cs.length < n → lx cs p acc = .ok l → lx (cs ++ 10 :: rest) p acc = lx (10 :: rest) (p + cs.length) l
  | 0, _, _, _, _, _, h, _ => absurd h (Nat.not_lt_zero _)
  | n + 1, [], rest, p, acc, l, hn, h => by
    cases h
    rfl
  | n + 1, c :: cs, rest, p, acc, l, hn, h => by
    cases ho : one (c :: cs) with
    | bad o e => rw [lx_bad ho] at h; cases h
    | skip m =>
      obtain ⟨h1, h2⟩ := one_skip ho
      have hx := one_line (rest := rest) (fun o e hh => by rw [ho] at hh; cases hh)
      rw [ho] at hx
      rw [lx_skip ho] at h
      rw [List.cons_append, lx_skip (by rw [← List.cons_append]; exact hx), ← List.cons_append, List.drop_append_of_le_length h2, lx_line n _ rest _ _ _ (by simp at hn h2 ⊢; omega) h]
      congr 1
      simp at h2 ⊢
      omega
    | tok kd t v m =>
      obtain ⟨h1, h2⟩ := one_tok ho
      have hx := one_line (rest := rest) (fun o e hh => by rw [ho] at hh; cases hh)
      rw [ho] at hx
      rw [lx_tok ho] at h
      rw [List.cons_append, lx_tok (by rw [← List.cons_append]; exact hx), ← List.cons_append, List.drop_append_of_le_length h2, lx_line n _ rest _ _ _ (by simp at hn h2 ⊢; omega) h]
      congr 1
      simp at h2 ⊢
      omega
end Go.Proofs.Ytlbchdalimngjaa.Lex
