/- Proved here: plain laws of the lexer's answers: how many tokens, where they stand, that a fault has a name; two equal lists are alike (no condition). -/
import Derived.Test.YtlbchdalimngjaaXLexc
import Derived.Test.YtlbchdalimngjaaPx9
import Derived.Test.YtlbchdalimngjaaPx26
import Derived.KernelRfl
namespace Go.Proofs.Ytlbchdalimngjaa.Lex
open Go.RowKit Go.Proofs.YtlbchdalimngjaaW.PrintWords Go.Proofs.YtlbchdalimngjaaW.PrintLast Go.Proofs.Ytlbchdalimngjaa.P
set_option linter.unusedVariables false
set_option linter.unusedSimpArgs false

theorem one_bad {c : UInt8} {cs : List UInt8} {o e : Nat} (h : one (c :: cs) = .bad o e) : e ≠ 0 := by
  rw [one] at h
  split at h
  · cases h
  split at h
  · cases h
  split at h
  · split at h
    · cases h; decide
    · cases h
  split at h
  · exact num_bad h
  split at h
  · exact text_bad (by simp) h
  unfold sgn at h
  split at h
  · split at h <;> (cases h; decide)
  split at h
  · cases h; decide
  split at h <;> cases h
theorem toks_bad : ∀ (n : Nat) (cs : List UInt8) (p : Nat) (acc : List LTok) (q e : Nat), toks n cs p acc = .error (q, e) → e ≠ 0
  | 0, _, _, _, _, _, h => by cases h
  | n + 1, [], _, _, _, _, h => by cases h
  | n + 1, c :: cs, p, acc, q, e, h => by
    rw [toks] at h
    cases ho : one (c :: cs) with
    | skip m => rw [ho] at h; exact toks_bad n _ _ _ _ _ h
    | tok kd t v m => rw [ho] at h; exact toks_bad n _ _ _ _ _ h
    | bad o e' => rw [ho] at h; cases h; exact one_bad ho
theorem lexAll_bad {cs : List UInt8} {q e : Nat} (h : lexAll cs = .error (q, e)) : e ≠ 0 := by
  unfold lexAll at h
  split at h
  · cases h; decide
  · exact toks_bad _ _ _ _ _ _ h
theorem lexAll_lx {cs : List UInt8} (h : cs.length ≤ 16384) : lexAll cs = lx cs 0 [] := by
  unfold lexAll lx
  rw [if_neg (by omega)]
theorem toks_count : ∀ (n : Nat) (cs : List UInt8) (p : Nat) (acc l : List LTok), toks n cs p acc = .ok l → l.length ≤ acc.length + cs.length ∧ ∀ t ∈ l, t ∈ acc ∨ t.pos ≤ p + cs.length
  | 0, _, _, _, _, h => by cases h; exact ⟨by omega, fun t ht => .inl ht⟩
  | n + 1, [], _, _, _, h => by cases h; exact ⟨by simp, fun t ht => .inl ht⟩
  | n + 1, c :: cs, p, acc, l, h => by
    rw [toks] at h
    cases ho : one (c :: cs) with
    | skip m =>
      rw [ho] at h
      obtain ⟨h1, h2⟩ := one_skip ho
      obtain ⟨a, b⟩ := toks_count n _ _ _ _ h
      rw [List.length_drop] at a b
      refine ⟨by omega, fun t ht => ?_⟩
      rcases b t ht with x | x
      · exact .inl x
      · exact .inr (by omega)
    | tok kd t v m =>
      rw [ho] at h
      obtain ⟨h1, h2⟩ := one_tok ho
      obtain ⟨a, b⟩ := toks_count n _ _ _ _ h
      rw [List.length_drop] at a b
      rw [List.length_append, List.length_singleton] at a
      refine ⟨by omega, fun t ht => ?_⟩
      rcases b t ht with x | x
      · rcases List.mem_append.1 x with y | y
        · exact .inl y
        · rw [List.mem_singleton] at y
          subst y
          exact .inr (by dsimp only; omega)
      · exact .inr (by omega)
    | bad o e => rw [ho] at h; cases h
theorem rd_at (l : List S33) (i : Nat) (x : S33) (h : l[i]? = some x) : rd_T33 l (i : Int) = x := by
  unfold rd_T33
  rw [List.getD_eq_getElem?_getD, Int.toNat_natCast, h]
  rfl
theorem bytes_beq (s : ByteArray) : (s.toList == s.toList) = true := beq_self_eq_true _
theorem alike_go (l : List S33) (hl : l.length ≤ 1000000) : ∀ (n i : Nat), i + n = l.length → Ev (fun k => prompterlaw07_Alike.l0 k l l (i : Int)) true
  | 0, i, h => Ev.step (f := fun _ => some true) (fun k => by
      show prompterlaw07_Alike.l0 (k + 1) l l (i : Int) = _
      rw [prompterlaw07_Alike.l0, if_neg (by omega)]) (Ev.now _)
  | n + 1, i, h => by
    refine Ev.step (fun k => ?_) (alike_go l hl n (i + 1) (by omega))
    show prompterlaw07_Alike.l0 (k + 1) l l (i : Int) = _
    rw [prompterlaw07_Alike.l0, if_pos (by omega), if_pos (by omega), if_pos (by omega), w64 (by omega) (by omega), if_neg (by simp)]
    rfl
/-- Two equal lists are alike. -/
theorem alike_refl (l : List S33) (hl : l.length ≤ 1000000) : Ev (fun k => prompterlaw07_Alike.f k l l) true := by
  refine Ev.congr (fun k => ?_) (alike_go l hl l.length 0 (by omega))
  show prompterlaw07_Alike.f k l l = _
  rw [prompterlaw07_Alike.f, if_pos rfl]
  rfl
theorem wakes_is : Ev (fun k => prompterlaw07_wakes.f k) true := Ev.of prompterlaw07_wakes.mono (k := 40) (by kernel_rfl)
theorem data_app (a b : ByteArray) : (a ++ b).data.toList = a.data.toList ++ b.data.toList := by
  rw [ByteArray.data_append, Array.toList_append]
theorem size_list (s : ByteArray) : s.data.toList.length = s.size := by simp
theorem size_app (a b : ByteArray) : (a ++ b).size = a.size + b.size := by rw [← size_list, data_app, List.length_append, size_list, size_list]
end Go.Proofs.Ytlbchdalimngjaa.Lex
