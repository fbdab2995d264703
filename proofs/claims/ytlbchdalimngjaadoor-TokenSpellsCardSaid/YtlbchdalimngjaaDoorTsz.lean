/- the statement TokenSpells holds (the tied card): what token.Spell answers is what the document's own spelling answers -/
import Derived.Lib.ItoaLen
import Derived.Test.YtlbchdalimngjaaDoorRows
import Derived.Deep.Slices
import Derived.Deep.Fields
import Derived.ChangeSame
import Derived.Lib.SmallJoins
import Derived.WalkKit
import Derived.ProofKit
import Derived.OpenShut
import Derived.ShutString
import Derived.ChangeOld
import Derived.Below
import Derived.SizedLaws
import Derived.Carry
import Derived.LaidMore
import Derived.Stop.LaidErr
import Derived.Stop.Joined
import Derived.MakeChecks
import Derived.SevenTiedAt
import Derived.Lib.LaidTab
import Derived.HandedShaped
import Derived.Test.YtlbchdalimngjaaDoorCards
import Derived.Test.YtlbchdalimngjaaDoorTie
import Derived.Test.YtlbchdalimngjaaDoorTse
namespace Go.Proofs.YtlbchdalimngjaaDoor.Lex
open Go.RowKit Go.Proofs.YtlbchdalimngjaaDoorW.PrintWords Go.Proofs.YtlbchdalimngjaaDoorW.PrintLast Go.Proofs.YtlbchdalimngjaaDoor.P
set_option linter.unusedVariables false
set_option linter.unusedSimpArgs false
abbrev Told7 := Int × ByteArray × Int × Int × Int × Int × Int
def stepR (i : Int) : Step → Told7
  | .tok kd tx v n => ((kd : Int), ⟨tx.toArray⟩, (v : Int), i, i + n, 0, 0)
  | .bad o e => (0, ⟨#[]⟩, 0, 0, 0, i + o, (e : Int))
  | .skip _ => (0, ⟨#[]⟩, 0, 0, 0, 0, 0)
theorem low_is (c : UInt8) : prompterref07_low.f (c.toNat : Int) = some (isLow c) := by
  unfold prompterref07_low.f isLow
  split
  · rw [decide_eq_true (show 97 ≤ c.toNat by omega), Bool.true_and]
    congr 1
    exact decide_eq_decide.2 (by omega)
  · rw [decide_eq_false (show ¬ 97 ≤ c.toNat by omega), Bool.false_and]
theorem dig_is (c : UInt8) : prompterref07_dig.f (c.toNat : Int) = some (isDig c) := by
  unfold prompterref07_dig.f isDig
  split
  · rw [decide_eq_true (show 48 ≤ c.toNat by omega), Bool.true_and]
    congr 1
    exact decide_eq_decide.2 (by omega)
  · rw [decide_eq_false (show ¬ 48 ≤ c.toNat by omega), Bool.false_and]
def wordR (s : ByteArray) (i n : Nat) : Told7 := if 24 < n then (0, ⟨#[]⟩, 0, 0, 0, (i : Int), 2) else (1, s.extract i (i + n), 0, (i : Int), ((i + n : Nat) : Int), 0, 0)
theorem word_end (s : ByteArray) (hs : s.size ≤ 16384) (i n : Nat) (h : i + n ≤ s.size) : (if (wrap64 (((i + n : Nat) : Int) - (i : Int))) > 24 then ((prompterref07_wrong.f (i : Int) 2).bind fun bt130 => (some (bt130.1, bt130.2.1, bt130.2.2.1, bt130.2.2.2.1, bt130.2.2.2.2.1, bt130.2.2.2.2.2.1, bt130.2.2.2.2.2.2))) else (if 0 ≤ (i : Int) then (if (i : Int) ≤ ((i + n : Nat) : Int) then (if ((i + n : Nat) : Int) ≤ (s.size : Int) then (some (1, s.extract ((i : Int)).toNat (((i + n : Nat) : Int)).toNat, 0, (i : Int), ((i + n : Nat) : Int), 0, 0)) else (none)) else (none)) else (none))) = some (wordR s i n) := by
  have e1 : wrap64 (((i + n : Nat) : Int) - (i : Int)) = (n : Int) := by rw [w64b (by omega) (by omega)]; omega
  rw [e1, wordR]
  by_cases h1 : 24 < n
  · rw [if_pos (by omega), if_pos h1]; rfl
  · rw [if_neg (by omega), if_neg h1, if_pos (by omega), if_pos (by omega), if_pos (by omega)]; rfl
theorem word_go (s : ByteArray) (hs : s.size ≤ 16384) (i : Nat) : ∀ (cs : List UInt8) (n : Nat), s.data.toList.drop (i + n) = cs → i + n ≤ s.size → Ev (fun k => prompterref07_word.l0 k s (i : Int) ((i + n : Nat) : Int)) (wordR s i (n + (cs.takeWhile isInn).length))
  | [], n, h, hi => by
    refine Ev.step (f := fun _ => some (wordR s i n)) (fun k => ?_) (Ev.now _)
    show prompterref07_word.l0 (k + 1) s _ _ = _
    rw [prompterref07_word.l0, if_neg (drop_nil h)]
    exact word_end s hs i n hi
  | c :: cs, n, h, hi => by
    obtain ⟨hb, hlt, hd⟩ := bt_get h
    by_cases hc : isInn c = true
    · rw [List.takeWhile_cons_of_pos hc, List.length_cons, show n + ((cs.takeWhile isInn).length + 1) = n + 1 + (cs.takeWhile isInn).length by omega]
      refine Ev.step (fun k => ?_) (word_go s hs i cs (n + 1) hd (by omega))
      show prompterref07_word.l0 (k + 1) s _ _ = _
      rw [prompterref07_word.l0, if_pos (by omega), if_pos (by omega), hb, low_is, dig_is, w64 (by omega) (by omega)]
      simp only [Option.bind_some]
      unfold isInn at hc
      cases h1 : isLow c with
      | true => rw [if_pos rfl]; rfl
      | false =>
        rw [if_neg (by decide)]
        cases h2 : isDig c with
        | true => rw [if_pos rfl]; rfl
        | false =>
          rw [h1, h2] at hc
          have : c.toNat = 95 := by simpa using hc
          rw [if_neg (by decide), if_pos (by omega)]
          rfl
    · rw [List.takeWhile_cons_of_neg hc]
      refine Ev.step (f := fun _ => some (wordR s i n)) (fun k => ?_) (Ev.now _)
      show prompterref07_word.l0 (k + 1) s _ _ = _
      have hc' : isInn c = false := Bool.eq_false_iff.mpr hc
      unfold isInn at hc'
      simp only [Bool.or_eq_false_iff, decide_eq_false_iff_not] at hc'
      rw [prompterref07_word.l0, if_pos (by omega), if_pos (by omega), hb, low_is, dig_is, hc'.1.1, hc'.1.2]
      simp only [Option.bind_some, Bool.false_eq_true, if_false]
      rw [if_neg (by omega)]
      exact word_end s hs i n hi
theorem word_is (s : ByteArray) (hs : s.size ≤ 16384) (i : Nat) (c : UInt8) (cs : List UInt8) (h : s.data.toList.drop i = c :: cs) (hl : isLow c = true) :
    Ev (fun k => prompterref07_word.f k s (i : Int)) (stepR i (if 24 < 1 + (cs.takeWhile isInn).length then .bad 0 2 else .tok 1 (c :: cs.takeWhile isInn) 0 (1 + (cs.takeWhile isInn).length))) := by
  have hi : isInn c = true := by unfold isInn; rw [hl]; rfl
  obtain ⟨hb, hlt, hd⟩ := bt_get h
  have := word_go s hs i (c :: cs) 0 h (by omega)
  rw [List.takeWhile_cons_of_pos hi, List.length_cons, Nat.zero_add, Nat.add_comm _ 1] at this
  have e : wordR s i (1 + (cs.takeWhile isInn).length) = stepR i (if 24 < 1 + (cs.takeWhile isInn).length then .bad 0 2 else .tok 1 (c :: cs.takeWhile isInn) 0 (1 + (cs.takeWhile isInn).length)) := by
    unfold wordR
    split
    · simp [stepR]
    · rw [ext_is h, Nat.add_comm 1, List.take_succ_cons, takeWhile_take]
      simp [stepR]
  rw [← e]
  exact this
end Go.Proofs.YtlbchdalimngjaaDoor.Lex
namespace Go.Proofs.YtlbchdalimngjaaDoor.Lex
open Go.RowKit Go.Proofs.YtlbchdalimngjaaDoorW.PrintWords Go.Proofs.YtlbchdalimngjaaDoorW.PrintLast Go.Proofs.YtlbchdalimngjaaDoor.P
set_option linter.unusedVariables false
set_option linter.unusedSimpArgs false
abbrev Tok := S40
def hexD (n : Nat) : UInt8 := if n < 10 then UInt8.ofNat (48 + n) else UInt8.ofNat (87 + n)
def escB (c : UInt8) : List UInt8 :=
  if c.toNat = 34 ∨ c.toNat = 92 then [92, c] else if c.toNat = 10 then [92, 110] else if c.toNat < 32 ∨ 126 < c.toNat then [92, 120, hexD (c.toNat / 16), hexD (c.toNat % 16)] else [c]
def quoteL (l : List UInt8) : List UInt8 := 34 :: l.flatMap escB ++ [34]
theorem escB_len (c : UInt8) : (escB c).length ≤ 4 := by
  unfold escB
  split
  · simp
  · split
    · simp
    · split <;> simp
theorem flat_len : ∀ l : List UInt8, (l.flatMap escB).length ≤ 4 * l.length
  | [] => by simp
  | c :: l => by
    have := escB_len c
    have := flat_len l
    rw [List.flatMap_cons, List.length_append, List.length_cons]
    omega
theorem hexs_is : ∀ n : Fin 16, bt (⟨#[48, 49, 50, 51, 52, 53, 54, 55, 56, 57, 97, 98, 99, 100, 101, 102]⟩ : ByteArray) (n.val : Int) = ((hexD n.val).toNat : Int) := by decide +kernel
theorem and15 : ∀ n : Fin 256, Go.bits .and .u8 (n.val : Int) 15 = ((n.val % 16 : Nat) : Int) := by decide +kernel
theorem hex_at (n : Nat) (h : n < 16) : bt (⟨#[48, 49, 50, 51, 52, 53, 54, 55, 56, 57, 97, 98, 99, 100, 101, 102]⟩ : ByteArray) (n : Int) = ((hexD n).toNat : Int) := hexs_is ⟨n, h⟩
theorem and_15 (c : UInt8) : Go.bits .and .u8 (c.toNat : Int) 15 = ((c.toNat % 16 : Nat) : Int) := and15 ⟨c.toNat, c.toNat_lt⟩
theorem bytes_snoc (out l : List UInt8) : bytesInt out ++ bytesInt l = bytesInt (out ++ l) := by simp [bytesInt]
theorem quo_go (s : ByteArray) (hs : s.size ≤ 16384) : ∀ (cs out : List UInt8) (i : Nat), s.data.toList.drop i = cs → i ≤ s.size → out.length ≤ 4 * i + 1 →
    Ev (fun k => token_quoted.l0 k s (bytesInt out) (s.size : Int) (i : Int)) ⟨(out ++ cs.flatMap escB ++ [34]).toArray⟩
  | [], out, i, h, hi, ho => by
    refine Ev.step (f := fun _ => some ⟨(out ++ [34]).toArray⟩) (fun k => ?_) ?_
    · show token_quoted.l0 (k + 1) s _ _ _ = _
      rw [token_quoted.l0, if_neg (drop_nil h), if_pos (by rw [bytesInt, List.length_map]; omega)]
      rw [show bytesInt out ++ [34] = bytesInt (out ++ [34]) from bytes_snoc out [34], strOf_bytes]
    · simpa using Ev.now _
  | c :: cs, out, i, h, hi, ho => by
    obtain ⟨hb, hlt, hd⟩ := bt_get h
    have hc := c.toNat_lt
    have ih := quo_go s hs cs (out ++ escB c) (i + 1) hd (by omega) (by have := escB_len c; rw [List.length_append]; omega)
    rw [show out ++ escB c ++ cs.flatMap escB ++ [34] = out ++ (c :: cs).flatMap escB ++ [34] by simp] at ih
    have hw : wrap64 ((i : Int) + 1) = ((i + 1 : Nat) : Int) := by rw [w64 (by omega) (by omega)]; rfl
    have put : ∀ y : List Int, (∀ k, y = bytesInt (escB c) → ((some y).bind fun y => if (bytesInt out).length + y.length < 140737488355328 then token_quoted.l0 k s (bytesInt out ++ y) (s.size : Int) (wrap64 ((i : Int) + 1)) else none) = token_quoted.l0 k s (bytesInt (out ++ escB c)) (s.size : Int) ((i + 1 : Nat) : Int)) := by
      intro y k hy
      subst hy
      have := escB_len c
      rw [Option.bind_some, if_pos (by simp only [bytesInt, List.length_map]; omega), bytes_snoc, hw]
    refine Ev.step (f := fun k => token_quoted.j1 k s (bytesInt out) (c.toNat : Int) (s.size : Int) (i : Int) (decide (c.toNat = 34 ∨ c.toNat = 92))) (fun k => ?_) ?_
    · show token_quoted.l0 (k + 1) s _ _ _ = _
      rw [token_quoted.l0, if_pos (by omega), if_pos (by omega), if_pos (by omega), hb]
      by_cases h1 : c.toNat = 34
      · rw [if_pos (by omega)]; simp [h1]
      · rw [if_neg (by omega)]
        congr 1
        by_cases h2 : c.toNat = 92
        · rw [decide_eq_true (Or.inr h2)]; exact beq_iff_eq.2 (by omega)
        · rw [decide_eq_false (by omega)]; exact beq_eq_false_iff_ne.2 (by omega)
    · refine Ev.step (f := fun k => token_quoted.l0 k s (bytesInt (out ++ escB c)) (s.size : Int) ((i + 1 : Nat) : Int)) (fun k => ?_) ih
      show token_quoted.j1 (k + 1) s _ _ _ _ _ = _
      rw [token_quoted.j1]
      by_cases h1 : c.toNat = 34 ∨ c.toNat = 92
      · rw [if_pos (decide_eq_true h1)]
        exact put _ k (by rw [escB, if_pos h1]; rfl)
      · rw [if_neg (by simpa using h1)]
        by_cases h2 : c.toNat = 10
        · rw [if_pos (by omega)]
          exact put _ k (by rw [escB, if_neg h1, if_pos h2]; rfl)
        · rw [if_neg (by omega)]
          have e16 : (c.toNat : Int) / 16 = ((c.toNat / 16 : Nat) : Int) := by omega
          have hx : c.toNat < 32 ∨ 126 < c.toNat → [92, 120, bt (⟨#[48, 49, 50, 51, 52, 53, 54, 55, 56, 57, 97, 98, 99, 100, 101, 102]⟩ : ByteArray) ((c.toNat : Int) / 16), bt (⟨#[48, 49, 50, 51, 52, 53, 54, 55, 56, 57, 97, 98, 99, 100, 101, 102]⟩ : ByteArray) (Go.bits .and .u8 (c.toNat : Int) 15)] = bytesInt (escB c) := by
            intro h3
            rw [escB, if_neg h1, if_neg h2, if_pos h3, e16, and_15, hex_at _ (by omega), hex_at _ (by omega)]
            rfl
          have g1 : (0 : Int) ≤ (c.toNat : Int) / 16 := by omega
          have g2 : (c.toNat : Int) / 16 < 16 := by omega
          have g3 : (0 : Int) ≤ Go.bits .and .u8 (c.toNat : Int) 15 := by rw [and_15]; omega
          have g4 : Go.bits .and .u8 (c.toNat : Int) 15 < 16 := by rw [and_15]; omega
          by_cases h3 : c.toNat < 32
          · rw [if_pos (by omega), if_pos g1, if_pos g2, if_pos g3, if_pos g4]
            exact put _ k (hx (.inl h3))
          · rw [if_neg (by omega)]
            by_cases h4 : 126 < c.toNat
            · rw [if_pos (by omega), if_pos g1, if_pos g2, if_pos g3, if_pos g4]
              exact put _ k (hx (.inr h4))
            · rw [if_neg (by omega), if_pos (by simp only [bytesInt, List.length_map]; omega), hw]
              rw [escB, if_neg h1, if_neg h2, if_neg (by omega), ← bytes_snoc]
              rfl
theorem quoted_is (s : ByteArray) (hs : s.size ≤ 16384) : Ev (fun k => token_quoted.f k s) ⟨(quoteL s.data.toList).toArray⟩ := quo_go s hs s.data.toList [34] 0 rfl (by omega) (by simp)
theorem rquo_go (s : ByteArray) (hs : s.size ≤ 16384) : ∀ (cs out : List UInt8) (i : Nat), s.data.toList.drop i = cs → i ≤ s.size → out.length ≤ 4 * i + 1 →
    Ev (fun k => prompterref07_Quoted.l0 k s (⟨#[48, 49, 50, 51, 52, 53, 54, 55, 56, 57, 97, 98, 99, 100, 101, 102]⟩ : ByteArray) (bytesInt out) (i : Int)) ⟨(out ++ cs.flatMap escB ++ [34]).toArray⟩
  | [], out, i, h, hi, ho => by
    refine Ev.step (f := fun _ => some ⟨(out ++ [34]).toArray⟩) (fun k => ?_) ?_
    · show prompterref07_Quoted.l0 (k + 1) s _ _ _ = _
      rw [prompterref07_Quoted.l0, if_neg (drop_nil h), if_pos (by rw [bytesInt, List.length_map]; omega)]
      rw [show bytesInt out ++ [34] = bytesInt (out ++ [34]) from bytes_snoc out [34], strOf_bytes]
    · simpa using Ev.now _
  | c :: cs, out, i, h, hi, ho => by
    obtain ⟨hb, hlt, hd⟩ := bt_get h
    have hc := c.toNat_lt
    have ih := rquo_go s hs cs (out ++ escB c) (i + 1) hd (by omega) (by have := escB_len c; rw [List.length_append]; omega)
    rw [show out ++ escB c ++ cs.flatMap escB ++ [34] = out ++ (c :: cs).flatMap escB ++ [34] by simp] at ih
    have hw : wrap64 ((i : Int) + 1) = ((i + 1 : Nat) : Int) := by rw [w64 (by omega) (by omega)]; rfl
    have put : ∀ y : List Int, (∀ k, y = bytesInt (escB c) → ((some y).bind fun y => if (bytesInt out).length + y.length < 140737488355328 then prompterref07_Quoted.l0 k s (⟨#[48, 49, 50, 51, 52, 53, 54, 55, 56, 57, 97, 98, 99, 100, 101, 102]⟩ : ByteArray) (bytesInt out ++ y) (wrap64 ((i : Int) + 1)) else none) = prompterref07_Quoted.l0 k s (⟨#[48, 49, 50, 51, 52, 53, 54, 55, 56, 57, 97, 98, 99, 100, 101, 102]⟩ : ByteArray) (bytesInt (out ++ escB c)) ((i + 1 : Nat) : Int)) := by
      intro y k hy
      subst hy
      have := escB_len c
      rw [Option.bind_some, if_pos (by simp only [bytesInt, List.length_map]; omega), bytes_snoc, hw]
    by_cases h2 : c.toNat = 10
    · refine Ev.step (f := fun k => prompterref07_Quoted.l0 k s (⟨#[48, 49, 50, 51, 52, 53, 54, 55, 56, 57, 97, 98, 99, 100, 101, 102]⟩ : ByteArray) (bytesInt (out ++ escB c)) ((i + 1 : Nat) : Int)) (fun k => ?_) ih
      show prompterref07_Quoted.l0 (k + 1) s _ _ _ = _
      rw [prompterref07_Quoted.l0, if_pos (by omega), if_pos (by omega), hb, if_pos (by omega)]
      exact put _ k (by rw [escB, if_neg (by omega), if_pos h2]; rfl)
    · refine Ev.step (f := fun k => prompterref07_Quoted.j1 k s (⟨#[48, 49, 50, 51, 52, 53, 54, 55, 56, 57, 97, 98, 99, 100, 101, 102]⟩ : ByteArray) (bytesInt out) (i : Int) (c.toNat : Int) (decide (c.toNat < 32 ∨ 126 < c.toNat))) (fun k => ?_) ?_
      · show prompterref07_Quoted.l0 (k + 1) s _ _ _ = _
        rw [prompterref07_Quoted.l0, if_pos (by omega), if_pos (by omega), hb, if_neg (by omega)]
        by_cases h1 : c.toNat < 32
        · rw [if_pos (by omega)]; simp [h1]
        · rw [if_neg (by omega)]
          congr 1
          exact decide_eq_decide.2 (by omega)
      · refine Ev.step (f := fun k => prompterref07_Quoted.l0 k s (⟨#[48, 49, 50, 51, 52, 53, 54, 55, 56, 57, 97, 98, 99, 100, 101, 102]⟩ : ByteArray) (bytesInt (out ++ escB c)) ((i + 1 : Nat) : Int)) (fun k => ?_) ih
        show prompterref07_Quoted.j1 (k + 1) s _ _ _ _ _ = _
        rw [prompterref07_Quoted.j1]
        have s16 : (((⟨#[48, 49, 50, 51, 52, 53, 54, 55, 56, 57, 97, 98, 99, 100, 101, 102]⟩ : ByteArray).size : Nat) : Int) = 16 := rfl
        have e16 : Int.tdiv (c.toNat : Int) 16 % 256 = ((c.toNat / 16 : Nat) : Int) := by rw [Int.tdiv_eq_ediv_of_nonneg (by omega)]; omega
        have e17 : Int.tmod (c.toNat : Int) 16 = ((c.toNat % 16 : Nat) : Int) := by rw [Int.tmod_eq_emod_of_nonneg (by omega)]; omega
        rw [e16, e17, s16]
        by_cases h1 : c.toNat < 32 ∨ 126 < c.toNat
        · rw [if_pos (decide_eq_true h1), if_pos (by omega), if_pos (by omega), if_pos (by omega), if_pos (by omega)]
          exact put _ k (by rw [escB, if_neg (by omega), if_neg h2, if_pos h1, hex_at _ (by omega), hex_at _ (by omega)]; rfl)
        · rw [if_neg (by simpa using h1)]
          by_cases h3 : c.toNat = 34
          · rw [if_pos (by omega)]
            exact put _ k (by rw [escB, if_pos (.inl h3)]; rfl)
          · rw [if_neg (by omega)]
            by_cases h4 : c.toNat = 92
            · rw [if_pos (by omega)]
              exact put _ k (by rw [escB, if_pos (.inr h4)]; rfl)
            · rw [if_neg (by omega), if_pos (by simp only [bytesInt, List.length_map]; omega), hw]
              rw [escB, if_neg (by omega), if_neg h2, if_neg h1, ← bytes_snoc]
              rfl
theorem rquoted_is (s : ByteArray) (hs : s.size ≤ 16384) : Ev (fun k => prompterref07_Quoted.f k s) ⟨(quoteL s.data.toList).toArray⟩ := rquo_go s hs s.data.toList [34] 0 rfl (by omega) (by simp)
theorem dec_len (n : Nat) (h : n ≤ 9223372036854775807) : (Lib.decDigits n).length ≤ 21 := by
  have := Lib.itoa_length_le (n : Int) (by omega) (by omega)
  rwa [Lib.itoa_nonneg] at this
theorem str_app (a b : List UInt8) : (⟨a.toArray⟩ : ByteArray) ++ ⟨b.toArray⟩ = ⟨(a ++ b).toArray⟩ := by
  apply ByteArray.ext
  show (_ : ByteArray).data = _
  rw [ByteArray.data_append]
  simp
theorem dec_big {n : Nat} (h : ¬ n < 10) : Lib.decDigits n = Lib.decDigits (n / 10) ++ [UInt8.ofNat (48 + n % 10)] := by rw [Lib.decDigits, dif_neg h]
theorem dig_go : ∀ (j n : Nat) (out : List UInt8), n ≤ j → n ≤ 9223372036854775807 → (Lib.decDigits n).length + out.length ≤ 100 → Ev (fun k => prompterref07_Digits.l0 k (n : Int) ⟨out.toArray⟩) ⟨(Lib.decDigits n ++ out).toArray⟩
  | j, n, out, hj, hn, ho => by
    have one : ∀ m : Nat, m < 10 → strOfNums [(wrap64 (48 + (m : Int))) % 256] = ⟨[UInt8.ofNat (48 + m)].toArray⟩ := by
      intro m hm
      have e : (wrap64 (48 + (m : Int))) % 256 = ((UInt8.ofNat (48 + m)).toNat : Int) := by
        rw [w64b (by omega) (by omega), UInt8.toNat_ofNat']
        omega
      rw [e]
      exact strOf_bytes [UInt8.ofNat (48 + m)]
    by_cases h : n < 10
    · refine Ev.step (f := fun _ => some ⟨(Lib.decDigits n ++ out).toArray⟩) (fun k => ?_) (Ev.now _)
      show prompterref07_Digits.l0 (k + 1) _ _ = _
      rw [prompterref07_Digits.l0, if_neg (by omega)]
      simp only [Option.bind_some]
      rw [one n h, ← Lib.decDigits_one h, if_pos ?_, str_app]
      show (Lib.decDigits n).length + out.length ≤ _
      omega
    · cases j with
      | zero => omega
      | succ j =>
      rw [dec_big h, List.length_append, List.length_singleton] at ho
      have ih := dig_go j (n / 10) (UInt8.ofNat (48 + n % 10) :: out) (by omega) (by omega) (by rw [List.length_cons]; omega)
      rw [dec_big h, List.append_assoc, List.singleton_append]
      refine Ev.step (fun k => ?_) ih
      show prompterref07_Digits.l0 (k + 1) _ _ = _
      have e1 : Int.tmod (n : Int) 10 = ((n % 10 : Nat) : Int) := by rw [Int.tmod_eq_emod_of_nonneg (by omega)]; omega
      have e2 : wrap64 (Int.tdiv (n : Int) 10) = ((n / 10 : Nat) : Int) := by
        rw [Int.tdiv_eq_ediv_of_nonneg (by omega)]
        unfold wrap64
        omega
      rw [prompterref07_Digits.l0, if_pos (by omega)]
      simp only [Option.bind_some]
      rw [e1, e2, one _ (by omega), if_pos ?_, str_app]
      · rfl
      · show 1 + out.length ≤ _
        omega
theorem digits_is (n : Nat) (hn : n ≤ 9223372036854775807) : Ev (fun k => prompterref07_Digits.f k (n : Int)) ⟨(Lib.decDigits n).toArray⟩ := by
  have := dig_go n n [] (Nat.le_refl _) hn (by have := dec_len n hn; simp only [List.length_nil]; omega)
  rwa [List.append_nil] at this
def marksL : List (List UInt8) := [[61, 61], [33, 61], [60, 61], [40], [41], [123], [125], [91], [93], [44], [61], [60], [43], [45], [42], [47], [37]]
def wordB : List UInt8 → Bool
  | [] => false
  | c :: cs => isLow c && (decide (cs.length < 24) && cs.all isInn)
def rightB (x : Tok) : Bool :=
  if x.f0 = 1 then wordB x.f1.data.toList && decide (x.f2 = 0) else if x.f0 = 2 then decide (0 ≤ x.f2) && decide (x.f1.data.toList = []) else if x.f0 = 3 then decide (x.f1.data.toList.length ≤ 4095) && decide (x.f2 = 0) else
    if x.f0 = 4 then decide (x.f1.data.toList ∈ marksL) && decide (x.f2 = 0) else false
theorem sz (s : ByteArray) : (s.size : Int) = (s.data.toList.length : Int) := by simp
theorem inn_go (s : ByteArray) (hs : s.size ≤ 24) (a0 a2 a3 : Int) : ∀ (cs : List UInt8) (i : Nat), s.data.toList.drop i = cs → i ≤ s.size →
    Ev (fun k => token_right.l0 k (s.size : Int) (i : Int) a0 s a2 a3 a0 s 0 a3) (cs.all isInn && decide (a2 = 0))
  | [], i, h, hi => by
    refine Ev.step (f := fun _ => some (decide (a2 = 0))) (fun k => ?_) (Ev.now _)
    show token_right.l0 (k + 1) _ _ _ _ _ _ _ _ _ _ = _
    rw [token_right.l0, if_neg (drop_nil h)]
    simp only [beq_self_eq_true, Bool.true_and, Bool.and_true]
    congr 1
    by_cases h0 : a2 = 0
    · subst h0; rfl
    · rw [decide_eq_false h0]; exact beq_eq_false_iff_ne.2 (fun e => h0 e.symm)
  | c :: cs, i, h, hi => by
    obtain ⟨hb, hlt, hd⟩ := bt_get h
    have ih := inn_go s hs a0 a2 a3 cs (i + 1) hd (by omega)
    cases hc : isInn c with
    | true =>
      rw [List.all_cons, hc, Bool.true_and]
      refine Ev.step (fun k => ?_) ih
      show token_right.l0 (k + 1) _ _ _ _ _ _ _ _ _ _ = _
      rw [token_right.l0, if_pos (by omega), if_pos (by omega), if_pos (by omega), hb, inner_is, hc, w64 (by omega) (by omega)]
      rfl
    | false =>
      rw [List.all_cons, hc, Bool.false_and, Bool.false_and]
      refine Ev.step (f := fun _ => some false) (fun k => ?_) (Ev.now _)
      show token_right.l0 (k + 1) _ _ _ _ _ _ _ _ _ _ = _
      rw [token_right.l0, if_pos (by omega), if_pos (by omega), if_pos (by omega), hb, inner_is, hc]
      rfl
theorem right_is (x0 x2 x3 : Int) (s : ByteArray) : Ev (fun k => token_right.f k x0 s x2 x3) (rightB ⟨x0, s, x2, x3⟩) := by
  unfold token_right.f rightB
  simp only [ByteArray.toList_eq]
  refine ite_Ev (fun k1 => ?_) (fun k1 => ?_)
  · rw [if_pos k1]
    have bad : Ev (fun k => token_right.j0 k true x0 s x2 x3 x0 s 0 x3) false := by
      refine Ev.step (f := fun _ => some false) (fun k => ?_) (Ev.now _)
      show token_right.j0 (k + 1) _ _ _ _ _ _ _ _ _ = _
      rw [token_right.j0, if_pos rfl]
    cases hl : s.data.toList with
    | nil =>
      simp only [eq_self, if_true]
      exact bad
    | cons c cs =>
      simp only [reduceCtorEq, if_false]
      obtain ⟨hb, hlt, hd⟩ := bt_get (s := s) (i := 0) (c := c) (cs := cs) hl
      have hz := sz s
      rw [hl, List.length_cons] at hz
      refine ite_Ev (fun h => ?_) (fun h => ?_)
      · rw [wordB, decide_eq_false (show ¬ cs.length < 24 by omega)]
        simpa using bad
      · rw [wordB, decide_eq_true (show cs.length < 24 by omega), Bool.true_and]
        simp only [if_pos (show 0 < (s.size : Int) by omega)]
        rw [show bt s 0 = (c.toNat : Int) from hb, letter_is]
        simp only [Option.bind_some]
        cases hc : isLow c with
        | false => simpa using bad
        | true =>
          have := inn_go s (by omega) x0 x2 x3 (c :: cs) 0 hl (by omega)
          rw [List.all_cons, show isInn c = true by unfold isInn; rw [hc]; rfl, Bool.true_and] at this
          rw [Bool.true_and]
          refine Ev.step (fun k => ?_) this
          show token_right.j0 (k + 1) _ _ _ _ _ _ _ _ _ = _
          rw [token_right.j0, if_neg (by decide)]
          rfl
  · rw [if_neg k1]
    refine ite_Ev (fun k2 => ?_) (fun k2 => ?_)
    · rw [if_pos k2]
      refine ite_Ev (fun h => ?_) (fun h => ?_)
      · rw [decide_eq_false (show ¬ 0 ≤ x2 by omega)]
        exact Ev.now _
      · rw [decide_eq_true (show 0 ≤ x2 by omega), Bool.true_and]
        rw [show (([] : List UInt8) == s.data.toList) = decide (s.data.toList = []) by cases s.data.toList <;> rfl]
        exact Ev.now _
    · rw [if_neg k2]
      have z : (0 == x2) = decide (x2 = 0) := by
        by_cases h0 : x2 = 0
        · subst h0; rfl
        · rw [decide_eq_false h0]; exact beq_eq_false_iff_ne.2 (fun e => h0 e.symm)
      rw [z]
      refine ite_Ev (fun k3 => ?_) (fun k3 => ?_)
      · rw [if_pos k3]
        have hz := sz s
        refine ite_Ev (fun h => ?_) (fun h => ?_)
        · rw [decide_eq_false (show ¬ s.data.toList.length ≤ 4095 by omega)]
          exact Ev.now _
        · rw [decide_eq_true (show s.data.toList.length ≤ 4095 by omega), Bool.true_and]
          exact Ev.now _
      · rw [if_neg k3]
        refine ite_Ev (fun k4 => ?_) (fun k4 => ?_)
        · rw [if_pos k4]
          generalize s.data.toList = l
          have yes : l ∈ marksL → Ev (fun _ : Nat => some (decide (x2 = 0))) (decide (l ∈ marksL) && decide (x2 = 0)) := fun h => by rw [decide_eq_true h, Bool.true_and]; exact Ev.now _
          repeat' refine ite_Ev (fun h => yes (by rw [h]; decide)) (fun _ => ?_)
          rw [decide_eq_false (by simp only [marksL, List.mem_cons, List.not_mem_nil, or_false]; intro h; rcases h with h | h | h | h | h | h | h | h | h | h | h | h | h | h | h | h | h <;> exact absurd h (by assumption))]
          exact Ev.now _
        · rw [if_neg k4]
          exact Ev.now _
theorem rd_strs (Z : List (List UInt8)) (j : Nat) (g : List UInt8) (h : Z[j]? = some g) : rdOf ByteArray.empty (Z.map fun l => (⟨l.toArray⟩ : ByteArray)) (j : Int) = ⟨g.toArray⟩ := by
  unfold rdOf
  rw [List.getD_eq_getElem?_getD, Int.toNat_natCast, List.getElem?_map, h]
  rfl
theorem among_go (Z : List (List UInt8)) (hZ : Z.length ≤ 100) (s : ByteArray) : ∀ (Y : List (List UInt8)) (i : Nat), Z.drop i = Y → i ≤ Z.length → Ev (fun k => prompterref07_Among.l0 k (Z.map fun l => (⟨l.toArray⟩ : ByteArray)) s (i : Int)) (decide (s.data.toList ∈ Y))
  | [], i, h, hi => by
    have := List.drop_eq_nil_iff.1 h
    refine Ev.step (f := fun _ => some false) (fun k => ?_) (by simpa using Ev.now _)
    show prompterref07_Among.l0 (k + 1) _ _ _ = _
    rw [prompterref07_Among.l0, if_neg (by rw [List.length_map]; omega)]
  | g :: Y, i, h, hi => by
    have hlt : i < Z.length := by
      rcases Nat.lt_or_ge i Z.length with h1 | h1
      · exact h1
      · rw [List.drop_eq_nil_of_le h1] at h; cases h
    have hg : Z[i]? = some g := by rw [← List.head?_drop, h]; rfl
    have hd : Z.drop (i + 1) = Y := by rw [← List.drop_drop, h]; rfl
    have ih := among_go Z hZ s Y (i + 1) hd (by omega)
    by_cases he : s.data.toList = g
    · rw [decide_eq_true (he ▸ List.mem_cons_self)]
      refine Ev.step (f := fun _ => some true) (fun k => ?_) (Ev.now _)
      show prompterref07_Among.l0 (k + 1) _ _ _ = _
      rw [prompterref07_Among.l0, if_pos (by rw [List.length_map]; omega), if_pos (by omega), rd_strs Z i g hg, ByteArray.toList_eq, ByteArray.toList_eq, if_pos he.symm]
    · rw [show decide (s.data.toList ∈ g :: Y) = decide (s.data.toList ∈ Y) from decide_eq_decide.2 (by simp [he])]
      refine Ev.step (fun k => ?_) ih
      show prompterref07_Among.l0 (k + 1) _ _ _ = _
      rw [prompterref07_Among.l0, if_pos (by rw [List.length_map]; omega), if_pos (by omega), rd_strs Z i g hg, ByteArray.toList_eq, ByteArray.toList_eq, if_neg (fun e => he e.symm), w64 (by omega) (by omega)]
      rfl
theorem tw_all (p : UInt8 → Bool) : ∀ l : List UInt8, l.all p = decide ((l.takeWhile p).length = l.length)
  | [] => rfl
  | c :: l => by
    have ih := tw_all p l
    cases hc : p c with
    | true => rw [List.all_cons, hc, Bool.true_and, ih, List.takeWhile_cons_of_pos hc, List.length_cons, List.length_cons]; exact decide_eq_decide.2 (by omega)
    | false => rw [List.all_cons, hc, Bool.false_and, List.takeWhile_cons_of_neg (by rw [hc]; decide)]; rfl
theorem may_is (x0 x2 x3 : Int) (s : ByteArray) : Ev (fun k => prompterref07_May.f k x0 s x2 x3) (rightB ⟨x0, s, x2, x3⟩) := by
  unfold prompterref07_May.f rightB
  simp only [ByteArray.toList_eq]
  refine ite_Ev (fun k2 => ?_) (fun k2 => ?_)
  · rw [if_neg (show ¬ x0 = 1 by omega), if_pos k2]
    refine ite_Ev (fun h => ?_) (fun h => ?_)
    · rw [decide_eq_true h, Bool.and_true]
      exact Ev.now _
    · rw [decide_eq_false h, Bool.and_false]
      exact Ev.now _
  · simp only [if_neg k2]
    refine ite_Ev (fun kz => ?_) (fun kz => ?_)
    rotate_left
    · rw [decide_eq_false kz, Bool.and_false, Bool.and_false, Bool.and_false]
      simp only [ite_self]
      exact Ev.now _
    rw [decide_eq_true kz, Bool.and_true, Bool.and_true, Bool.and_true]
    have hz := sz s
    refine ite_Ev (fun k3 => ?_) (fun k3 => ?_)
    · rw [if_neg (show ¬ x0 = 1 by omega), if_pos k3, show decide ((s.size : Int) ≤ 4095) = decide (s.data.toList.length ≤ 4095) from decide_eq_decide.2 (by omega)]
      exact Ev.now _
    · simp only [if_neg k3]
      refine ite_Ev (fun k4 => ?_) (fun k4 => ?_)
      · rw [if_neg (show ¬ x0 = 1 by omega), if_pos k4]
        have h := among_go marksL (by decide) s marksL 0 rfl (by omega)
        refine Ev.congr (fun k => ?_) h
        show ((prompterref07_Signs.f).bind fun t186 => ((prompterref07_Among.f k t186 s).bind fun t189 => some t189)) = _
        rw [show prompterref07_Signs.f = some (marksL.map fun l => (⟨l.toArray⟩ : ByteArray)) from rfl]
        simp only [Option.bind_some, Option.bind_fun_some]
        rfl
      · simp only [if_neg k4]
        refine ite_Ev (fun k1 => ?_) (fun k1 => ?_)
        rotate_left
        · rw [if_neg k1]; exact Ev.now _
        rw [if_pos k1]
        cases hl : s.data.toList with
        | nil => simp only [eq_self, if_true]; exact Ev.now _
        | cons c cs =>
          simp only [reduceCtorEq, if_false]
          obtain ⟨hb, hlt, hd⟩ := bt_get (s := s) (i := 0) (c := c) (cs := cs) hl
          rw [hl, List.length_cons] at hz
          rw [wordB]
          refine ite_Ev (fun h => ?_) (fun h => ?_)
          · rw [decide_eq_false (show ¬ cs.length < 24 by omega), Bool.false_and, Bool.and_false]
            exact Ev.now _
          · simp only [if_pos (show 0 < (s.size : Int) by omega)]
            rw [show bt s 0 = (c.toNat : Int) from hb, low_is, decide_eq_true (show cs.length < 24 by omega), Bool.true_and]
            simp only [Option.bind_some]
            refine ite_Ev (fun hc => ?_) (fun hc => ?_)
            · have hw := word_is s (by omega) 0 c cs hl hc
              have hle := takeWhile_le isInn cs
              rw [if_neg (by omega)] at hw
              rw [hc, Bool.true_and]
              have e : (((0 : Nat) : Int) + ((1 + (cs.takeWhile isInn).length : Nat) : Int) == (s.size : Int)) = cs.all isInn := by
                rw [tw_all]
                by_cases ha : (cs.takeWhile isInn).length = cs.length
                · rw [decide_eq_true ha]
                  exact beq_iff_eq.2 (by omega)
                · rw [decide_eq_false ha]
                  exact beq_eq_false_iff_ne.2 (by omega)
              rw [← e]
              refine Ev.bind hw ?_
              exact Ev.now _
            · rw [Bool.eq_false_iff.2 hc, Bool.false_and]
              exact Ev.now _
def pieceL (x : Tok) : List UInt8 := if x.f0 = 2 then Lib.decDigits x.f2.toNat else if x.f0 = 3 then quoteL x.f1.data.toList else x.f1.data.toList
def joinL : Bool → List Tok → List UInt8
  | _, [] => []
  | f, x :: l => (if f = true then [] else [32]) ++ pieceL x ++ joinL false l
def finL (b : List UInt8) : ByteArray × Int := if 16384 < b.length then (⟨#[]⟩, 2) else (⟨b.toArray⟩, 0)
def spellL (l : List Tok) : ByteArray × Int := if l.all rightB = true then finL (joinL true l) else (⟨#[]⟩, 3)
theorem finL_long {b c : List UInt8} (h1 : 16384 < b.length) (h2 : 16384 < c.length) : finL b = finL c := by rw [finL, finL, if_pos h1, if_pos h2]
theorem right_sz {x : Tok} (h : rightB x = true) : x.f1.size ≤ 4095 ∧ (x.f0 = 2 → 0 ≤ x.f2) := by
  obtain ⟨x0, s, x2, x3⟩ := x
  unfold rightB at h
  dsimp only at h ⊢
  have hz := sz s
  split at h
  · rename_i h1
    refine ⟨?_, fun h2 => by omega⟩
    cases hl : s.data.toList with
    | nil => rw [hl] at hz; simp only [List.length_nil] at hz; omega
    | cons c cs =>
      rw [hl, wordB] at h
      simp at h
      rw [hl, List.length_cons] at hz
      omega
  · split at h
    · simp at h
      rw [h.2] at hz
      refine ⟨by simp only [List.length_nil] at hz; omega, fun _ => h.1⟩
    · split at h
      · simp at h
        refine ⟨?_, fun h2 => by omega⟩
        exact h.1
      · split at h
        · simp only [Bool.and_eq_true, decide_eq_true_eq] at h
          refine ⟨?_, fun h2 => by omega⟩
          have h1 := h.1
          have : ∀ l ∈ marksL, l.length ≤ 2 := by decide
          have := this _ h1
          omega
        · cases h
theorem piece_len {x : Tok} (h : rightB x = true) (hx : x.f2 ≤ 9223372036854775807) : (pieceL x).length ≤ 20000 := by
  have h1 := (right_sz h).1
  have h2 := data_length x.f1
  unfold pieceL
  split
  · have := dec_len x.f2.toNat (by omega)
    omega
  · split
    · have := flat_len x.f1.data.toList
      rw [quoteL, List.length_append, List.length_cons, List.length_singleton]
      omega
    · omega
theorem piece_is {k : Nat} {x : Tok} (h : rightB x = true) (hx : x.f2 ≤ 9223372036854775807) : Ev (fun k => piece k x) (pieceL x) := by
  have h1 := (right_sz h)
  unfold piece pieceL
  refine ite_Ev (fun k2 => ?_) (fun k2 => ?_)
  · rw [if_pos k2, if_pos ⟨h1.2 k2, hx⟩, show Lib.itoa x.f2 = Lib.decDigits x.f2.toNat by
      have := Lib.itoa_nonneg x.f2.toNat
      rwa [Int.toNat_of_nonneg (h1.2 k2)] at this]
    exact Ev.now _
  · rw [if_neg k2]
    refine ite_Ev (fun k3 => ?_) (fun k3 => ?_)
    · rw [if_pos k3]
      exact Ev.bind (quoted_is x.f1 (by omega)) (Ev.now _)
    · rw [if_neg k3]
      exact Ev.now _
theorem spell_go : ∀ (l : List Tok) (f : Bool) (b : List UInt8) (lg : Bool), (∀ x ∈ l, x.f2 ≤ 9223372036854775807) → (lg = true → 16384 < b.length) →
    Ev (fun k => spellGo k l f b lg) (if l.all rightB = true then finL (b ++ joinL f l) else (⟨#[]⟩, 3))
  | [], f, b, lg, hx, hl => by
    simp only [List.all_nil, if_true, joinL, List.append_nil]
    refine Ev.congr (fun k => ?_) (Ev.now _)
    show spellGo k [] f b lg = _
    rw [spellGo, finL]
    split <;> rfl
  | x :: l, f, b, lg, hx, hl => by
    have hx' : ∀ y ∈ l, y.f2 ≤ 9223372036854775807 := fun y hy => hx y (List.mem_cons_of_mem _ hy)
    show Ev (fun k => (token_right.f k x.f0 x.f1 x.f2 x.f3).bind fun ok => _) _
    refine Ev.bind (right_is x.f0 x.f2 x.f3 x.f1) ?_
    show Ev _ (if (rightB x && l.all rightB) = true then _ else _)
    have ex : rightB ⟨x.f0, x.f1, x.f2, x.f3⟩ = rightB x := rfl
    rw [ex]
    cases hr : rightB x with
    | false => simp only [if_true, Bool.false_and, Bool.false_eq_true, if_false]; exact Ev.now _
    | true =>
      simp only [Bool.true_and, Bool.true_eq_false, if_false]
      refine ite_Ev (fun h => ?_) (fun h => ?_)
      · have hb : 16384 < b.length := by rcases h with h | h; exact hl h; exact h
        have ih := spell_go l false b true hx' (fun _ => hb)
        rw [finL_long (b := b ++ joinL f (x :: l)) (c := b ++ joinL false l) (by rw [List.length_append]; omega) (by rw [List.length_append]; omega)]
        exact ih
      · have hp := piece_len hr (hx x List.mem_cons_self)
        refine Ev.bind (piece_is (k := 0) hr (hx x List.mem_cons_self)) ?_
        simp only [if_pos (show (pieceL x).length ≤ 1000000 by omega)]
        have ih := spell_go l false (b ++ (if f = true then [] else [32]) ++ pieceL x) false hx' (fun e => by cases e)
        rw [joinL, ← List.append_assoc, ← List.append_assoc]
        exact ih
theorem spell_is (l : List Tok) (hl : l.length ≤ 1000000) (hx : ∀ x ∈ l, x.f2 ≤ 9223372036854775807) : Ev (fun k => token_Spell.f k l) (spellL l) := by
  have := spell_go l true [] false hx (fun e => by cases e)
  unfold token_Spell.f spellL
  simp only [if_pos hl]
  exact this
theorem rsp1 (l : List Tok) (hl : l.length ≤ 1000000) (hr : ∀ x ∈ l, rightB x = true) (hx : ∀ x ∈ l, x.f2 ≤ 9223372036854775807) : ∀ (cs : List Tok) (i : Nat) (b : List UInt8), l.drop i = cs → i ≤ l.length → b.length ≤ 16384 →
    Ev (fun k => prompterref07_Spell.l1 k l (bytesInt b) (i : Int)) (finL (b ++ joinL (decide (i = 0)) cs))
  | [], i, b, h, hi, hb => by
    have := List.drop_eq_nil_iff.1 h
    refine Ev.step (f := fun _ => some (⟨b.toArray⟩, 0)) (fun k => ?_) ?_
    · show prompterref07_Spell.l1 (k + 1) _ _ _ = _
      rw [prompterref07_Spell.l1, if_neg (by omega), strOf_bytes]
    · rw [joinL, List.append_nil, finL, if_neg (by omega)]
      exact Ev.now _
  | x :: cs, i, b, h, hi, hb => by
    have hlt : i < l.length := by
      rcases Nat.lt_or_ge i l.length with h1 | h1
      · exact h1
      · rw [List.drop_eq_nil_of_le h1] at h; cases h
    have hg : l[i]? = some x := by rw [← List.head?_drop, h]; rfl
    have hd : l.drop (i + 1) = cs := by rw [← List.drop_drop, h]; rfl
    have hm : x ∈ l := List.mem_of_getElem? hg
    have hrx := hr x hm
    have hxx := hx x hm
    have hp := piece_len hrx hxx
    have hs := right_sz hrx
    have hrd := rd_at l i x hg
    have blen : ∀ (b : List UInt8), (bytesInt b).length = b.length := fun b => by rw [bytesInt, List.length_map]
    have key : ∀ b2 : List UInt8, b2.length ≤ 16385 → Ev (fun k => prompterref07_Spell.j2 k l (bytesInt b2) (i : Int)) (finL (b2 ++ (pieceL x ++ joinL false cs))) := by
      intro b2 hb2
      have done : ∀ (t : ByteArray), t.data.toList = pieceL x → Ev (fun k => (if (bytesInt b2).length + t.size < 140737488355328 then ((some (bytesInt b2 ++ bytesOf t : List Int)).bind fun y => (if (y.length : Int) > 16384 then (some ((⟨#[]⟩ : ByteArray), (2 : Int))) else (prompterref07_Spell.l1 k l y (wrap64 ((i : Int) + 1))))) else none)) (finL (b2 ++ (pieceL x ++ joinL false cs))) := by
        intro t ht
        have hts : t.size = (pieceL x).length := by rw [← ht, data_length]
        simp only [if_pos (show (bytesInt b2).length + t.size < 140737488355328 by rw [blen]; omega), Option.bind_some]
        rw [show bytesOf t = bytesInt (pieceL x) by rw [← ht]; rfl, bytes_snoc, blen, List.length_append, w64 (by omega) (by omega)]
        refine ite_Ev (fun h => ?_) (fun h => ?_)
        · rw [finL, if_pos (by rw [List.length_append, List.length_append]; omega)]
          exact Ev.now _
        · have ih := rsp1 l hl hr hx cs (i + 1) (b2 ++ pieceL x) hd (by omega) (by rw [List.length_append]; omega)
          rw [show decide (i + 1 = 0) = false by simp, List.append_assoc] at ih
          exact ih
      have j3 : ∀ (t : ByteArray), (if x.f0 = 3 then quoteL t.data.toList else t.data.toList) = pieceL x → (x.f0 = 3 → t.size ≤ 4095) → Ev (fun k => prompterref07_Spell.j3 k l (bytesInt b2) (i : Int) t) (finL (b2 ++ (pieceL x ++ joinL false cs))) := by
        intro t ht h3
        by_cases k3 : x.f0 = 3
        · rw [if_pos k3] at ht
          refine Ev.step (f := fun k => (prompterref07_Quoted.f k t).bind fun t248 => (if (bytesInt b2).length + t248.size < 140737488355328 then ((some (bytesInt b2 ++ bytesOf t248 : List Int)).bind fun y => (if (y.length : Int) > 16384 then (some ((⟨#[]⟩ : ByteArray), (2 : Int))) else (prompterref07_Spell.l1 k l y (wrap64 ((i : Int) + 1))))) else none)) (fun k => ?_) (Ev.bind (rquoted_is t (by have := h3 k3; omega)) (done _ (by simpa using ht)))
          show prompterref07_Spell.j3 (k + 1) _ _ _ _ = _
          rw [prompterref07_Spell.j3, if_pos (by omega), if_pos (by omega), hrd, if_pos k3]
        · rw [if_neg k3] at ht
          refine Ev.step (fun k => ?_) (done t ht)
          show prompterref07_Spell.j3 (k + 1) _ _ _ _ = _
          rw [prompterref07_Spell.j3, if_pos (by omega), if_pos (by omega), hrd, if_neg k3]
      by_cases k2 : x.f0 = 2
      · have h0 := hs.2 k2
        refine Ev.step (f := fun k => (prompterref07_Digits.f k x.f2).bind fun t => prompterref07_Spell.j3 k l (bytesInt b2) (i : Int) t) (fun k => ?_) (Ev.bind (a := ⟨(Lib.decDigits x.f2.toNat).toArray⟩) ?_ (j3 _ ?_ (fun h => by omega)))
        · show prompterref07_Spell.j2 (k + 1) _ _ _ = _
          rw [prompterref07_Spell.j2, if_pos (by omega), if_pos (by omega), hrd, if_pos k2]
        · have := digits_is x.f2.toNat (by omega)
          rwa [Int.toNat_of_nonneg h0] at this
        · rw [if_neg (by omega), pieceL, if_pos k2]
      · refine Ev.step (fun k => ?_) (j3 x.f1 (by rw [pieceL, if_neg k2]) (fun _ => hs.1))
        show prompterref07_Spell.j2 (k + 1) _ _ _ = _
        rw [prompterref07_Spell.j2, if_pos (by omega), if_pos (by omega), hrd, if_neg k2]
    rw [joinL, List.append_assoc]
    by_cases h0 : i = 0
    · rw [decide_eq_true h0, if_pos rfl, List.nil_append]
      refine Ev.step (fun k => ?_) (key b (by omega))
      show prompterref07_Spell.l1 (k + 1) _ _ _ = _
      rw [prompterref07_Spell.l1, if_pos (by omega), if_neg (by omega)]
    · rw [decide_eq_false h0, if_neg (by decide), ← List.append_assoc]
      refine Ev.step (fun k => ?_) (key (b ++ [32]) (by rw [List.length_append, List.length_singleton]; omega))
      show prompterref07_Spell.l1 (k + 1) _ _ _ = _
      rw [prompterref07_Spell.l1, if_pos (by omega), if_pos (by omega), if_pos (by rw [blen]; omega), ← bytes_snoc]
      rfl
theorem rsp0 (l : List Tok) (hl : l.length ≤ 1000000) (hx : ∀ x ∈ l, x.f2 ≤ 9223372036854775807) : ∀ (cs : List Tok) (i : Nat), l.drop i = cs → i ≤ l.length → (∀ x ∈ l.take i, rightB x = true) →
    Ev (fun k => prompterref07_Spell.l0 k l (i : Int)) (if cs.all rightB = true then finL (joinL true l) else (⟨#[]⟩, 3))
  | [], i, h, hi, hr => by
    have := List.drop_eq_nil_iff.1 h
    rw [List.take_of_length_le this] at hr
    have := rsp1 l hl hr hx l 0 [] rfl (by omega) (by simp)
    simp only [List.all_nil, if_true]
    refine Ev.step (fun k => ?_) this
    show prompterref07_Spell.l0 (k + 1) _ _ = _
    rw [prompterref07_Spell.l0, if_neg (by omega)]
    rfl
  | x :: cs, i, h, hi, hr => by
    have hlt : i < l.length := by
      rcases Nat.lt_or_ge i l.length with h1 | h1
      · exact h1
      · rw [List.drop_eq_nil_of_le h1] at h; cases h
    have hg : l[i]? = some x := by rw [← List.head?_drop, h]; rfl
    have hd : l.drop (i + 1) = cs := by rw [← List.drop_drop, h]; rfl
    have hrd := rd_at l i x hg
    refine Ev.step (f := fun k => (prompterref07_May.f k x.f0 x.f1 x.f2 x.f3).bind fun t => if t = true then prompterref07_Spell.l0 k l ((i + 1 : Nat) : Int) else some ((⟨#[]⟩ : ByteArray), 3)) (fun k => ?_) (Ev.bind (may_is x.f0 x.f2 x.f3 x.f1) ?_)
    · show prompterref07_Spell.l0 (k + 1) _ _ = _
      rw [prompterref07_Spell.l0, if_pos (by omega), if_pos (by omega), hrd, w64 (by omega) (by omega)]
      rfl
    · rw [show rightB ⟨x.f0, x.f1, x.f2, x.f3⟩ = rightB x from rfl, List.all_cons]
      cases hrx : rightB x with
      | false => simp only [Bool.false_and, Bool.false_eq_true, if_false]; exact Ev.now _
      | true =>
        simp only [Bool.true_and, if_true]
        refine rsp0 l hl hx cs (i + 1) hd (by omega) (fun y hy => ?_)
        rw [List.take_add_one, hg] at hy
        rcases List.mem_append.1 hy with h | h
        · exact hr y h
        · simp at h; rw [h]; exact hrx
theorem rspell_is (l : List Tok) (hl : l.length ≤ 1000000) (hx : ∀ x ∈ l, x.f2 ≤ 9223372036854775807) : Ev (fun k => prompterref07_Spell.f k l) (spellL l) := rsp0 l hl hx l 0 rfl (by omega) (by simp)
end Go.Proofs.YtlbchdalimngjaaDoor.Lex
namespace Go.Proofs.YtlbchdalimngjaaDoor.Lex
open Go.RowKit Go.Proofs.YtlbchdalimngjaaDoorW.PrintWords Go.Proofs.YtlbchdalimngjaaDoorW.PrintLast Go.Proofs.YtlbchdalimngjaaDoor.P
set_option linter.unusedVariables false
set_option linter.unusedSimpArgs false
theorem tokenSpells_law (l : List Tok) (hx : ∀ x ∈ l, x.f2 ≤ 9223372036854775807) : Ev (fun k => prompterlaw07_TokenSpells.f k l) true := by
  unfold prompterlaw07_TokenSpells.f
  refine ite_Ev (fun h => ?_) (fun h => ?_)
  · exact Ev.bind wakes_is (Ev.now _)
  · have hl : l.length ≤ 1000000 := by omega
    simp only [Option.bind_some, List.nil_append, List.length_nil, Nat.zero_add]
    simp only [if_pos (show l.length < 3518437208883 by omega)]
    refine Ev.bind (spell_is l hl hx) ?_
    refine Ev.bind (rspell_is l hl hx) ?_
    simp only [if_true]
    refine Ev.bind (alike_refl l hl) ?_
    simp only [if_true]
    exact Ev.bind wakes_is (Ev.now _)
end Go.Proofs.YtlbchdalimngjaaDoor.Lex
namespace Go.Proofs.YtlbchdalimngjaaDoor.Pure
open Go.Proofs.YtlbchdalimngjaaDoor.P Go.Proofs.YtlbchdalimngjaaDoorW.PrintWords
theorem TokenSpells (l : List S40) (hx : ∀ x ∈ l, x.f2 ≤ 9223372036854775807) : ∃ k, prompterlaw07_TokenSpells.f k l = some true := (Lex.tokenSpells_law l hx).rounds
end Go.Proofs.YtlbchdalimngjaaDoor.Pure
namespace Go.Proofs.YtlbchdalimngjaaDoor.Read
open Go.ChangeShapes Go.WideShapes Go.RowKit Go.Proofs.YtlbchdalimngjaaDoorW.PrintWords Go.Proofs.YtlbchdalimngjaaDoor.P
set_option linter.unusedVariables false
section
variable {H : Type} {enc : TypeId × Value → H} {P : Program} {w : World} {base : Nat} {spare : Nat → Bool} {held : Bool}
def Reads {α : Type} (enc : TypeId × Value → H) (P : Program) (w : World) (base : Nat) (spare : Nat → Bool) (held : Bool) (e : TypeId) (d : Kd α) (S : α → Prop) : Prop :=
  ∀ (fuel : Nat) (cs : List Value) (x : DataW H × List MemPlace), DataW.trod enc P w base spare held fuel e cs = some x → ∃ a, d.K w a cs ∧ ((∀ n ∈ x.1.weights P e, n ≤ reachBytes) → S a)
theorem weights_all (P : Program) (e : TypeId) : ∀ (l : List (DataW H)) (d : DataW H), d ∈ l → ∀ n ∈ d.weights P e, n ∈ DataW.weightsAll P e l
  | d0 :: l, d, hd, n, hn => by
    simp only [DataW.weightsAll, List.mem_append]
    rcases List.mem_cons.1 hd with rfl | hd
    · exact .inl hn
    · exact .inr (weights_all P e l d hd n hn)
theorem reads_slice {α : Type} [Inhabited α] {t e : TypeId} {d : Kd α} {S : α → Prop} (ht : P.underlying t = some (.slice e)) (hc : P.cellsOf e = d.sz) (hd : Reads enc P w base spare held e d S) {fuel : Nat} {cs : List Value} {x : DataW H × List MemPlace}
    (h : DataW.trod enc P w base spare held fuel t cs = some x) : ∃ (A : Option Addr) (c : Nat) (xs : List α), cs = [.slice A xs.length c] ∧ xs.length ≤ c ∧ d.C w A xs.length xs ∧ ((∀ n ∈ x.1.weights P t, n ≤ reachBytes) → xs.length * P.bytesOf e ≤ reachBytes ∧ ∀ y ∈ xs, S y) := by
  rcases Go.Deep.open_slice ht h with ⟨rfl, rfl⟩ | ⟨a, len, cap, m, n, D, Pl, rfl, hb, hl, hm, hmm, rfl, hi⟩
  · exact ⟨none, 0, [], rfl, Nat.le_refl _, ⟨rfl, by simp, fun h => absurd h (Nat.lt_irrefl 0)⟩, fun _ => ⟨by simp, by simp⟩⟩
  · have hlm : len ≤ m := by rw [hmm]; split <;> omega
    have all : ∀ i, ∃ y : α, i < len → (((∀ n ∈ (D i).weights P e, n ≤ reachBytes) → S y) ∧ ∃ c, c.length = d.sz ∧ d.K w y c ∧ ∀ j u, c[j]? = some u → w.cell? (a.add (i * d.sz + j)) = some u) := by
      intro i
      by_cases h : i < len
      · obtain ⟨cs', hcs, htr⟩ := hi i (by omega)
        obtain ⟨y, hy, hS⟩ := hd _ _ _ htr
        rw [hc] at hcs
        obtain ⟨_, hlen, hat⟩ := World.cells?_some hcs
        refine ⟨y, fun _ => ⟨hS, cs', hlen, hy, fun j u hj => ?_⟩⟩
        have hjl : j < d.sz := by rw [← hlen]; exact (List.getElem?_eq_some_iff.1 hj).1
        have := hat j hjl
        rw [Go.Deep.add_add] at this
        rw [this, hj]
      · exact ⟨default, fun h2 => absurd h2 h⟩
    obtain ⟨f, hf⟩ := Classical.skolem.1 all
    have hln : ((List.range len).map f).length = len := by simp
    refine ⟨some a, cap, (List.range len).map f, by rw [hln], by rw [hln]; exact hl, ?_, fun hw => ⟨?_, fun y hy => ?_⟩⟩
    rw [hln]
    refine ⟨hln, ?_, fun _ => ⟨a, rfl, fun j p hj => ?_⟩⟩
    · have : maxLen = 9223372036854775807 := rfl
      omega
    · rw [List.getElem?_map] at hj
      have hjl : j < len := by
        rcases Nat.lt_or_ge j len with h | h
        · exact h
        · rw [List.getElem?_eq_none (by simpa using h)] at hj; cases hj
      rw [List.getElem?_range hjl] at hj
      obtain rfl := Option.some.inj hj
      exact (hf j hjl).2
    · have := hw ((((List.range len).map D).length + (((List.range (m - len)).map fun j => D (len + j))).length) * P.bytesOf e) (by simp [DataW.weights, ht])
      rw [hln]
      rw [List.length_map, List.length_range] at this
      exact Nat.le_trans (Nat.mul_le_mul_right _ (Nat.le_add_right _ _)) this
    · obtain ⟨i, hi2, rfl⟩ := List.mem_map.1 hy
      have hil : i < len := List.mem_range.1 hi2
      refine (hf i hil).1 (fun n hn => hw n ?_)
      have := weights_all P e ((List.range len).map D) (D i) (List.mem_map.2 ⟨i, hi2, rfl⟩) n hn
      simp [DataW.weights, ht]
      exact .inr (.inl this)
theorem Reads.slice {α : Type} [Inhabited α] {t e : TypeId} {d : Kd α} {S : α → Prop} (ht : P.underlying t = some (.slice e)) (hc : P.cellsOf e = d.sz) (hd : Reads enc P w base spare held e d S) : Reads enc P w base spare held t (Kd.slice e d) (fun xs => xs.length * P.bytesOf e ≤ reachBytes ∧ ∀ y ∈ xs, S y) := by
  intro fuel cs x h
  obtain ⟨A, c, xs, rfl, hl, hC, hS⟩ := reads_slice ht hc hd h
  exact ⟨xs, ⟨A, c, rfl, hl, hC⟩, hS⟩
end
section
variable {H : Type} {enc : TypeId × Value → H} {w : World} {base : Nat} {spare : Nat → Bool} {held : Bool}
instance : Inhabited S47 := ⟨z47⟩
instance : Inhabited S40 := ⟨z40⟩
theorem i64_le {n : Int} (h : (Lit.int .i64 n).wf = true) : n ≤ 9223372036854775807 := by
  simp [Lit.wf, IntKind.max, IntKind.min, IntKind.signed, IntKind.bits] at h
  omega
set_option maxRecDepth 100000 in
theorem reads_token : Reads enc Tryd.prog w base spare held 40 k40 (fun x => x.f2 ≤ 9223372036854775807) := by
  intro fuel cs x h
  obtain ⟨y0, y1, y2, y3, n, _, hl, h0, h1, h2, h3⟩ := Go.Joins.trod_struct4 Tryd.underlying40 h
  have hC : Tryd.prog.cellsOf 40 = 4 := by kernel_rfl
  rw [hC] at hl
  match cs, hl with
  | [c0, c1, c2, c3], _ =>
    have k5 : Tryd.prog.cellsOf 5 = 1 := by kernel_rfl
    have k3 : Tryd.prog.cellsOf 3 = 1 := by kernel_rfl
    have k2 : Tryd.prog.cellsOf 2 = 1 := by kernel_rfl
    have k9 : Tryd.prog.cellsOf 9 = 1 := by kernel_rfl
    dsimp only at h0 h1 h2 h3
    rw [k5] at h0
    rw [k9] at h1
    rw [k2] at h2
    rw [k3] at h3
    obtain ⟨n0, e0, _⟩ := DataW.trod_int Tryd.underlying5 h0
    obtain ⟨s1, e1, _⟩ := DataW.trod_string Tryd.underlying9 h1
    obtain ⟨n2, e2, _, hw⟩ := DataW.trod_int Tryd.underlying2 h2
    obtain ⟨n3, e3, _⟩ := DataW.trod_int Tryd.underlying3 h3
    simp at e0 e1 e2 e3
    subst e0 e1 e2 e3
    exact ⟨⟨n0, s1, n2, n3⟩, k40_mk w ⟨n0, s1, n2, n3⟩, fun _ => i64_le (by simpa using hw)⟩
theorem sized_at {P : Program} {ts : List TypeId} {ds : List (DataW H)} (h : (DataW.weightsEach P (ts ++ []) (ds ++ [])).all (· ≤ reachBytes) = true) {j : Nat} {t : TypeId} {d : DataW H} (ht : ts[j]? = some t) (hd : ds[j]? = some d) : ∀ n ∈ DataW.weights P t d, n ≤ reachBytes := by
  intro n hn
  rw [List.append_nil, List.append_nil] at h
  have := List.all_eq_true.1 h _ (DataW.weights_mem_each ht hd n hn)
  simpa using this
theorem toks_le {l : List S40} {S : S40 → Prop} {n : Nat} (h : n ≤ reachBytes ∧ ∀ y ∈ l, S y) : ∀ y ∈ l, S y := h.2
end
end Go.Proofs.YtlbchdalimngjaaDoor.Read
namespace Go.Proofs.YtlbchdalimngjaaDoor.tokenSpells
open Go.ChangeShapes Go.WideShapes Go.ChangeAt Go.RowKit Go.Proofs.YtlbchdalimngjaaDoor.Read Go.Proofs.YtlbchdalimngjaaDoor.P Go.Proofs.YtlbchdalimngjaaDoorW.PrintWords
open Go.ChangeMaps (open_string shut_string)
set_option linter.unusedVariables false
theorem own : ownKnob Tryd.prog.godebug = none := by kernel_rfl
theorem laidOut : laidOutB Tryd.prog = true := by kernel_rfl
theorem gT : Tryd.prog.globalNamed "internal/strconv.uint64pow10" = some 0 := by kernel_rfl
theorem gTType : (Tryd.prog.globals[0]?).map (·.type) = some 137 := by kernel_rfl
theorem lies {W : World} (h : laidMetH Tryd.prog Rows.tokenSpellsRow.laid W) : P.Laid W := by
  rw [MakeChecks.laidMetH_plain _ _ _ (by kernel_rfl)] at h
  exact Lib.tabIs_of_head gT gTType Tryd.underlying137 Tryd.underlying97 (by kernel_rfl) (by kernel_rfl) (laidMet.tail (laidMet.tail h))
theorem door_met (os : Os) (args : Array Value) : laidMetH Tryd.prog Rows.tokenSpellsRow.laid ((World.doorLaid Tryd.prog 400 os).forCall (fun _ _ => 0) ⟨#[], args, []⟩).memory :=
  laidMetH_of_parts3 (fuel := 8) (laidMet_of_run' 8 (by kernel_rfl) (by kernel_rfl)) (by kernel_rfl) (by kernel_rfl)
set_option maxRecDepth 100000 in
theorem lifted (os : Os) (started : os.Started) (H : Type) (enc : TypeId × Value → H) :
    ReturnsInHanded {} Tryd.checked os 3 .any (fun w args => (Rows.tokenSpellsSpec.pre enc Tryd.prog Tryd.f3 [] false w args ∧ laidMetH Tryd.prog Rows.tokenSpellsRow.laid w) ∧ sizedMet enc Tryd.prog Tryd.f3 (OpenSpec.ofChange Rows.tokenSpellsSpec) false w args) (Rows.tokenSpellsSpec.post enc Tryd.prog Tryd.f3 false true false false) := by
  refine returnsInHanded_of_change_and (C := Tryd.checked) (X := fun w _ => laidMetH Tryd.prog Rows.tokenSpellsRow.laid w) (fun _ _ _ hh h => h.of_heap hh) own started (by kernel_rfl) Tryd.func3
    (ChangeSpec.witness_shaped (enc := enc) (C := Tryd.checked) (os := os) (X := fun w _ => laidMetH Tryd.prog Rows.tokenSpellsRow.laid w) false (World.doorLaid Tryd.prog 400 os) #[.slice none 0 0] 8 rfl (World.shaped_of_RefB (by kernel_rfl) (by kernel_rfl)) (by kernel_rfl) (by kernel_rfl) (by kernel_rfl) (door_met os _)) ?_
  intro W base args ds gs before hval0 hW hcnd hsz0 hLA _
  have hsz : (DataW.weightsEach Tryd.prog (Tryd.f3.params.toList ++ Rows.tokenSpellsSpec.plain.varTypes Tryd.prog) (ds ++ gs)).all (· ≤ reachBytes) = true := hsz0
  have hval : ∀ (j : Nat) t v, Tryd.f3.params[j]? = some t → args[j]? = some v → Value.okWide Tryd.prog W .any base t v := hval0
  have hW' := hW
  obtain ⟨p, q, hA0, hV, rfl, hfz, hnd⟩ := hW
  have hA : DataW.TrodAll enc Tryd.prog W 0 (fun _ => true) true Tryd.f3.params.toList args.toList ds p := hA0
  rw [Tryd.params3] at hA hval hsz
  obtain ⟨v0, vs0, d0, ds0, p0, q0, hargs, rfl, rfl, h0, r0⟩ := trodAll_cons hA
  obtain ⟨rfl, rfl, rfl⟩ := trodAll_nil r0
  obtain rfl : args = #[v0] := by cases args; simp_all
  obtain ⟨rfl, rfl⟩ := trodVars_none hV
  have hwt : ∀ (j : Nat) t d, [22][j]? = some t → (d0 :: [])[j]? = some d → ∀ n ∈ DataW.weights Tryd.prog t d, n ≤ reachBytes := fun j t d a b n hn => sized_at hsz a b n hn
  have lt0 : ∀ x ∈ p0, x.block < W.heap.size := by obtain ⟨m, hm⟩ := h0; exact DataW.trod_lt m _ _ _ hm
  have g0 := h0
  obtain ⟨m0, hm0⟩ := h0
  obtain ⟨A0, c0, l0, e0, hc0, hr0, hs0⟩ := reads_slice Tryd.underlying22 (by kernel_rfl) reads_token hm0
  obtain ⟨a0, n0, u0, ev0⟩ := okWide_slice Tryd.underlying22 (hval 0 22 v0 rfl rfl)
  subst ev0
  simp only [Value.cells, List.cons.injEq, Value.slice.injEq, and_true] at e0
  obtain ⟨rfl, rfl, rfl⟩ := e0
  have s0 := hs0 (hwt 0 22 d0 rfl rfl)
  clear hA0 hval0 hsz0 hsz hwt
  obtain ⟨k, hk⟩ := Pure.TokenSpells l0 (toks_le s0)
  refine (P.prompterlaw07_TokenSpells.calls k _ _ l0 true W (lies hLA) hr0 hc0 hk).mono fun e W' ⟨he, bel⟩ => ?_
  subst he
  exact ⟨_, rfl, _, _, _, [], _, [], hW', trodAll_mk1 (shut_bool Tryd.underlying4 _), (trodAll_cons_mk (Below.trod laidOut (by kernel_rfl) (of_decide_eq_true (by kernel_rfl)) g0 bel lt0) trodAll_mk0), rfl, bel.frame _, fun h => by cases h⟩
theorem over : Rows.tokenSpellsRow.holds Tryd.pinned (OpenSpec.ofChange Rows.tokenSpellsSpec) :=
  OpenClaim.holds_of_wide 3 Tryd.f3 rfl rfl rfl rfl rfl rfl rfl ⟨rfl, rfl, rfl, rfl, rfl⟩ rfl rfl rfl rfl rfl (by kernel_rfl) Tryd.func3 (by kernel_rfl)
    (of_decide_eq_true (by kernel_rfl)) (by unfold Func.isWrapper; first | (rw [if_pos (by decide +kernel)]; kernel_rfl) | (rw [if_neg (by decide +kernel)]; exact ⟨rfl, rfl⟩))
    (fun os started H enc _ => lifted os started H enc)
theorem proved : Rows.TokenSpellsCardSaid :=
  Claim7.holds_tied_plain_at .later [] [.data, .data, .data] true (Rows.tokenSpellsCard.stood.harness) true over (fun _ h => by cases h) (by kernel_rfl) (fun _ h => by cases h) tokenSpells_row_tie rfl ⟨rfl, rfl⟩ (by kernel_rfl) rfl
    (fun f fn hf hfn => by
      obtain rfl : f = 3 := Option.some.inj ((show Tryd.prog.funcNamed "prompter/prompterlaw07.TokenSpells" = some 3 by kernel_rfl).symm.trans hf) |>.symm
      obtain rfl : fn = Tryd.f3 := (Option.some.inj (Tryd.func3.symm.trans hfn)).symm
      exact ⟨by kernel_rfl, fun j t ht => by
        rw [Tryd.params3] at ht
        have hm : t ∈ [22] := by simpa using Array.mem_of_getElem? ht
        have hall : ([22].all fun u => !Tryd.prog.wantsStandIn u) = true := by kernel_rfl
        exact (show Tryd.prog.wantsStandIn t = false by simpa using List.all_eq_true.1 hall t hm)⟩)
    (by kernel_rfl)
end Go.Proofs.YtlbchdalimngjaaDoor.tokenSpells
namespace Go.Proofs.YtlbchdalimngjaaDoor
theorem tokenSpells_holds : Rows.TokenSpellsCardSaid := tokenSpells.proved
end Go.Proofs.YtlbchdalimngjaaDoor
