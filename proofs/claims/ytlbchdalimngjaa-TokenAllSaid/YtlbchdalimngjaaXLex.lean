/- Proved here: plain laws of a lexer over lists of bytes, and that what token.All computes is what it says (no condition). -/
import Derived.Test.YtlbchdalimngjaaXAlld
namespace Go.Proofs.Ytlbchdalimngjaa.Lex
open Go.RowKit Go.Proofs.YtlbchdalimngjaaW.PrintWords Go.Proofs.YtlbchdalimngjaaW.PrintLast Go.Proofs.Ytlbchdalimngjaa.P
set_option linter.unusedVariables false
set_option linter.unusedSimpArgs false

/-! ### The lexer -/
def isLow (c : UInt8) : Bool := decide (97 ≤ c.toNat) && decide (c.toNat ≤ 122)
def isDig (c : UInt8) : Bool := decide (48 ≤ c.toNat) && decide (c.toNat ≤ 57)
def isInn (c : UInt8) : Bool := isLow c || isDig c || decide (c.toNat = 95)
inductive Step where
  | skip (n : Nat)
  | tok (kind : Nat) (text : List UInt8) (val n : Nat)
  | bad (o e : Nat)
def digVal (ds : List UInt8) : Nat := ds.foldl (fun a d => 10 * a + (d.toNat - 48)) 0
def maxI : Nat := 9223372036854775807
/-- A number: its digits, and what stands behind them. -/
def num (cs : List UInt8) : Step :=
  let ds := cs.takeWhile isDig
  if cs.head? = some 48 ∧ 1 < ds.length then .bad 1 9
  else if maxI < digVal ds then .bad 0 2
  else match (cs.drop ds.length).head? with
    | some c => if isInn c = true then .bad ds.length 9 else .tok 2 [] (digVal ds) ds.length
    | none => .tok 2 [] (digVal ds) ds.length
def hexVal (c : UInt8) : Option Nat := if isDig c = true then some (c.toNat - 48) else if 97 ≤ c.toNat ∧ c.toNat ≤ 102 then some (c.toNat - 87) else none
/-- A byte that a text says, and how many bytes say it; or where it goes wrong. -/
def chr : List UInt8 → Except (Nat × Nat) (UInt8 × Nat)
  | [] => .error (0, 4)
  | c :: cs => if c.toNat < 32 ∨ 126 < c.toNat then .error (0, 9) else if c.toNat ≠ 92 then .ok (c, 1) else
    match cs with
    | [] => .error (1, 4)
    | d :: cs => if d.toNat = 34 ∨ d.toNat = 92 then .ok (d, 2) else if d.toNat = 110 then .ok (10, 2) else if d.toNat ≠ 120 then .error (1, 9) else
      match cs with
      | [] => .error (2, 4)
      | h :: cs => match hexVal h with
        | none => .error (2, 9)
        | some a => match cs with
          | [] => .error (3, 4)
          | g :: _ => match hexVal g with
            | none => .error (3, 9)
            | some b => .ok ((16 * a + b).toUInt8, 4)
def textGo : Nat → List UInt8 → Nat → List UInt8 → Step
  | 0, _, _, _ => .bad 0 0
  | _ + 1, [], o, _ => .bad o 4
  | k + 1, c :: cs, o, out => if c.toNat = 34 then .tok 3 out 0 (o + 1) else
    match chr (c :: cs) with
    | .error (p, e) => .bad (o + p) e
    | .ok (x, n) => if out.length = 4095 then .bad 0 2 else textGo k ((c :: cs).drop n) (o + n) (out ++ [x])
def signs : List UInt8 := [40, 41, 123, 125, 91, 93, 44, 61, 60, 43, 45, 42, 47, 37, 33]
def sgn (c : UInt8) (cs : List UInt8) : Step :=
  if c.toNat = 33 ∧ cs.head? ≠ some 61 then (if cs = [] then .bad 1 4 else .bad 1 9)
  else if c ∉ signs then .bad 0 9
  else if (c.toNat = 61 ∨ c.toNat = 60 ∨ c.toNat = 33) ∧ cs.head? = some 61 then .tok 4 [c, 61] 0 2 else .tok 4 [c] 0 1
def one : List UInt8 → Step
  | [] => .skip 0
  | c :: cs =>
    if c.toNat = 32 ∨ c.toNat = 10 then .skip 1 else
    if c.toNat = 35 then .skip (1 + (cs.takeWhile fun d => decide (d.toNat ≠ 10)).length) else
    if isLow c = true then (if 24 < 1 + (cs.takeWhile isInn).length then .bad 0 2 else .tok 1 (c :: cs.takeWhile isInn) 0 (1 + (cs.takeWhile isInn).length)) else
    if isDig c = true then num (c :: cs) else
    if c.toNat = 34 then textGo ((c :: cs).length) cs 1 [] else sgn c cs
structure LTok where
  kind : Nat
  text : List UInt8
  val : Nat
  pos : Nat
def toks : Nat → List UInt8 → Nat → List LTok → Except (Nat × Nat) (List LTok)
  | 0, _, _, acc => .ok acc
  | _ + 1, [], _, acc => .ok acc
  | k + 1, c :: cs, p, acc => match one (c :: cs) with
    | .skip n => toks k ((c :: cs).drop n) (p + n) acc
    | .tok kd tx v n => toks k ((c :: cs).drop n) (p + n) (acc ++ [⟨kd, tx, v, p⟩])
    | .bad o e => .error (p + o, e)
def lexAll (cs : List UInt8) : Except (Nat × Nat) (List LTok) := if 16384 < cs.length then .error (0, 2) else toks (cs.length + 1) cs 0 []

/-! ### The bridge -/
def LTok.S (t : LTok) : S33 := ⟨t.kind, ⟨t.text.toArray⟩, t.val, t.pos⟩
def told : Except (Nat × Nat) (List LTok) → List S33 × Int × Int
  | .ok l => (l.map LTok.S, 0, 0)
  | .error (p, e) => ([], p, e)

section
variable (s : ByteArray)
theorem bt_get {s : ByteArray} {i : Nat} {c : UInt8} {cs : List UInt8} (h : s.data.toList.drop i = c :: cs) : bt s (i : Int) = (c.toNat : Int) ∧ i < s.size ∧ s.data.toList.drop (i + 1) = cs := by
  have hlt : i < s.data.toList.length := by
    rcases Nat.lt_or_ge i s.data.toList.length with h1 | h1
    · exact h1
    · rw [List.drop_eq_nil_of_le h1] at h; cases h
  rw [List.drop_eq_getElem_cons hlt] at h
  injection h with h1 h2
  have hs : i < s.size := by simpa using hlt
  refine ⟨?_, hs, h2⟩
  unfold bt
  rw [dif_pos (by simpa using hs)]
  subst h1
  rfl
theorem drop_nil {s : ByteArray} {i : Nat} (h : s.data.toList.drop i = []) : ¬ (i : Int) < (s.size : Int) := by
  have := List.drop_eq_nil_iff.1 h
  simp at this
  have e : s.data.size = s.size := rfl
  omega
end
theorem ite_Ev {α : Type} {c : Prop} [Decidable c] {f g : Nat → Option α} {r : α} (h1 : c → Ev f r) (h2 : ¬ c → Ev g r) : Ev (fun k => if c then f k else g k) r := by
  by_cases h : c
  · simpa [h] using h1 h
  · simpa [h] using h2 h
theorem letter_is (c : UInt8) : token_letter.f (c.toNat : Int) = some (isLow c) := by
  unfold token_letter.f isLow
  split
  · rw [decide_eq_true (show 97 ≤ c.toNat by omega), Bool.true_and]
    congr 1
    exact decide_eq_decide.2 (by omega)
  · rw [decide_eq_false (show ¬ 97 ≤ c.toNat by omega), Bool.false_and]
theorem digit_is (c : UInt8) : token_digit.f (c.toNat : Int) = some (isDig c) := by
  unfold token_digit.f isDig
  split
  · rw [decide_eq_true (show 48 ≤ c.toNat by omega), Bool.true_and]
    congr 1
    exact decide_eq_decide.2 (by omega)
  · rw [decide_eq_false (show ¬ 48 ≤ c.toNat by omega), Bool.false_and]
theorem inner_is (c : UInt8) : token_inner.f (c.toNat : Int) = some (isInn c) := by
  unfold token_inner.f isInn
  rw [letter_is, digit_is]
  simp only [Option.bind_some]
  cases isLow c <;> cases isDig c <;> simp
  rw [Bool.eq_iff_iff]
  simp
  omega
theorem w64b {y : Int} (h0 : 0 ≤ y) (h : y ≤ 1000000) : wrap64 y = y := by unfold wrap64; omega
theorem w64 {i : Int} (h0 : 0 ≤ i) (h : i ≤ 1000000) : wrap64 (i + 1) = i + 1 := by unfold wrap64; omega
/-- Where a word ends. -/
theorem wd_is (s : ByteArray) (hs : s.size ≤ 16384) : ∀ (cs : List UInt8) (i : Nat), s.data.toList.drop i = cs → i ≤ s.size → Ev (fun k => token_All.wd k s (i : Int)) (((i + (cs.takeWhile isInn).length : Nat)) : Int)
  | [], i, h, hi => ⟨1, fun k hk => by
      obtain ⟨k, rfl⟩ : ∃ m, k = m + 1 := ⟨k - 1, by omega⟩
      show token_All.wd (k + 1) s (i : Int) = _
      rw [token_All.wd, if_neg (drop_nil h)]
      simp⟩
  | c :: cs, i, h, hi => by
    obtain ⟨hb, hlt, hd⟩ := bt_get h
    refine Ev.step (f := fun k => if isInn c = true then token_All.wd k s ((i + 1 : Nat) : Int) else some (i : Int)) (fun k => ?_) ?_
    · show token_All.wd (k + 1) s (i : Int) = _
      rw [token_All.wd, if_pos (by omega), hb, inner_is, w64 (by omega) (by omega)]
      rfl
    · refine ite_Ev (fun hc => ?_) (fun hc => ?_)
      · have := wd_is s hs cs (i + 1) hd (by omega)
        rw [List.takeWhile_cons_of_pos hc]
        simpa [Nat.add_assoc, Nat.add_comm 1] using this
      · rw [List.takeWhile_cons_of_neg hc]
        exact Ev.now _
theorem rem_is (s : ByteArray) (hs : s.size ≤ 16384) : ∀ (cs : List UInt8) (i : Nat), s.data.toList.drop i = cs → i ≤ s.size → Ev (fun k => token_All.rem k s (i : Int)) (((i + (cs.takeWhile fun d => decide (d.toNat ≠ 10)).length : Nat)) : Int)
  | [], i, h, hi => ⟨1, fun k hk => by
      obtain ⟨k, rfl⟩ : ∃ m, k = m + 1 := ⟨k - 1, by omega⟩
      show token_All.rem (k + 1) s (i : Int) = _
      rw [token_All.rem, if_neg (drop_nil h)]
      simp⟩
  | c :: cs, i, h, hi => by
    obtain ⟨hb, hlt, hd⟩ := bt_get h
    refine Ev.step (f := fun k => if c.toNat = 10 then some (i : Int) else token_All.rem k s ((i + 1 : Nat) : Int)) (fun k => ?_) ?_
    · show token_All.rem (k + 1) s (i : Int) = _
      rw [token_All.rem, if_pos (by omega), hb, w64 (by omega) (by omega)]
      by_cases e : c.toNat = 10
      · rw [if_pos (by omega), if_pos e]
      · rw [if_neg (by omega), if_neg e]; rfl
    · refine ite_Ev (fun hc => ?_) (fun hc => ?_)
      · rw [List.takeWhile_cons_of_neg (by simpa using hc)]
        exact Ev.now _
      · have := rem_is s hs cs (i + 1) hd (by omega)
        rw [List.takeWhile_cons_of_pos (by simpa using hc)]
        simpa [Nat.add_assoc, Nat.add_comm 1] using this

/-! ### Numbers -/
theorem digVal_snoc (p : List UInt8) (c : UInt8) : digVal (p ++ [c]) = 10 * digVal p + (c.toNat - 48) := by
  simp [digVal, List.foldl_append]
theorem digVal_mono (p q : List UInt8) : digVal p ≤ digVal (p ++ q) := by
  induction q generalizing p with
  | nil => simp
  | cons c q ih =>
    have h1 := ih (p ++ [c])
    rw [digVal_snoc] at h1
    simp only [List.append_assoc, List.cons_append, List.nil_append] at h1
    omega
theorem dig_bounds {c : UInt8} (h : isDig c = true) : 48 ≤ c.toNat ∧ c.toNat ≤ 57 := by
  simpa [isDig] using h
theorem u64_small {x : Int} (h0 : 0 ≤ x) (h1 : x < 18446744073709551616) : IntKind.u64.wrap x = x := by
  simp [IntKind.wrap, IntKind.bits, IntKind.signed]
  omega
/-- What a number's walk answers, of what it says. -/
def numTold (i : Int) : Step → Int × Int × Int × Int
  | .tok _ _ v n => ((v : Int), i + n, 0, 0)
  | .bad o e => (0, 0, i + o, e)
  | .skip _ => (0, 0, 0, 0)
/-- 'num', some digits having gone by. -/
def numOf (D rest : List UInt8) : Step :=
  if D.head? = some 48 ∧ 1 < D.length then .bad 1 9
  else if maxI < digVal D then .bad 0 2
  else match rest.head? with
    | some c => if isInn c = true then .bad D.length 9 else .tok 2 [] (digVal D) D.length
    | none => .tok 2 [] (digVal D) D.length
theorem num_go (s : ByteArray) (hs : s.size ≤ 16384) (i : Nat) : ∀ (cs p : List UInt8), s.data.toList.drop i = p ++ cs → s.data.toList.drop (i + p.length) = cs → i + p.length ≤ s.size →
    (p.length ≤ 1 ∨ p.head? ≠ some 48) → digVal p ≤ maxI →
    Ev (fun k => token_number.l0 k s (i : Int) ((digVal p : Nat) : Int) ((i + p.length : Nat) : Int)) (numTold i (numOf (p ++ cs.takeWhile isDig) (cs.drop (cs.takeWhile isDig).length)))
  | [], p, h, hd, hi, hz, hv => by
    have he := drop_nil hd
    refine Ev.step (f := fun k => token_number.j1 k s (i : Int) ((digVal p : Nat) : Int) ((i + p.length : Nat) : Int) false) (fun k => ?_) ?_
    · show token_number.l0 (k + 1) s _ _ _ = _
      rw [token_number.l0, if_neg he]
    refine ⟨1, fun k hk => ?_⟩
    obtain ⟨k, rfl⟩ : ∃ m, k = m + 1 := ⟨k - 1, by omega⟩
    show token_number.j1 (k + 1) s _ _ _ _ = _
    rw [token_number.j1, if_neg (by decide), if_neg he]
    have e1 : ¬ (p.head? = some 48 ∧ 1 < p.length) := by rintro ⟨a, b⟩; rcases hz with hz | hz <;> first | omega | exact hz a
    simp only [List.takeWhile_nil, List.append_nil, List.length_nil, List.drop_nil, numOf, if_neg e1, if_neg (Nat.not_lt.2 hv), List.head?_nil, numTold]
    have e2 : wrap64 ((digVal p : Nat) : Int) = ((digVal p : Nat) : Int) := by unfold wrap64; unfold maxI at hv; omega
    rw [e2]
    simp
  | c :: cs, p, h, hd, hi, hz, hv => by
    obtain ⟨hb, hlt, hd'⟩ := bt_get hd
    have e1 : ¬ (p.head? = some 48 ∧ 1 < p.length) := by rintro ⟨a, b⟩; rcases hz with hz | hz <;> first | omega | exact hz a
    refine Ev.step (f := fun k => token_number.j1 k s (i : Int) ((digVal p : Nat) : Int) ((i + p.length : Nat) : Int) (isDig c)) (fun k => ?_) ?_
    · show token_number.l0 (k + 1) s _ _ _ = _
      rw [token_number.l0, if_pos (by omega), if_pos (by omega), hb, digit_is]
      rfl
    cases hc : isDig c with
    | false =>
      refine ⟨1, fun k hk => ?_⟩
      obtain ⟨k, rfl⟩ : ∃ m, k = m + 1 := ⟨k - 1, by omega⟩
      show token_number.j1 (k + 1) s _ _ _ _ = _
      rw [token_number.j1, if_neg (by decide), if_pos (by omega), if_pos (by omega), hb, inner_is]
      rw [List.takeWhile_cons_of_neg (by simp [hc])]
      simp only [Option.bind_some, List.append_nil, List.length_nil, List.drop_zero, numOf, if_neg e1, if_neg (Nat.not_lt.2 hv), List.head?_cons]
      have e2 : wrap64 ((digVal p : Nat) : Int) = ((digVal p : Nat) : Int) := by unfold wrap64; unfold maxI at hv; omega
      rw [e2]
      cases isInn c <;> simp [numTold]
    | true =>
      obtain ⟨d1, d2⟩ := dig_bounds hc
      rw [List.takeWhile_cons_of_pos hc]
      have hdr : (c :: cs).drop (c :: cs.takeWhile isDig).length = cs.drop (cs.takeWhile isDig).length := by simp
      rw [hdr]
      have happ : p ++ c :: cs.takeWhile isDig = (p ++ [c]) ++ cs.takeWhile isDig := by simp
      rw [happ]
      have h0 : s.data.toList.drop i = (p ++ [c]) ++ cs := by rw [h]; simp
      have hfirst : ∀ a q, p = a :: q → bt s (i : Int) = (a.toNat : Int) ∧ i < s.size := by
        intro a q hp
        rw [hp] at h
        exact ⟨(bt_get h).1, (bt_get h).2.1⟩
      -- is it a digit behind a nought?
      by_cases hnought : p = [48]
      · subst hnought
        obtain ⟨hb0, hi0⟩ := hfirst 48 [] rfl
        clear hv hz e1 hfirst
        refine ⟨2, fun k hk => ?_⟩
        obtain ⟨k, rfl⟩ : ∃ m, k = m + 2 := ⟨k - 2, by omega⟩
        show token_number.j1 (k + 1 + 1) s _ _ ((i + 1 : Nat) : Int) _ = _
        have hlt1 : i + 1 < s.size := hlt
        have ew : wrap64 ((i : Int) + 1) = ((i + 1 : Nat) : Int) := by rw [w64 (by omega) (by omega)]; rfl
        rw [token_number.j1, if_pos rfl, if_pos (by omega), if_pos (by omega), if_pos ew.symm, if_pos (by omega), if_pos (by omega), token_number.j2, hb0]
        simp only [show ((((48 : UInt8).toNat : Nat) : Int) == 48) = true from rfl, if_true]
        simp [numOf, numTold]
      · have hj : Ev (fun k => token_number.j2 k s (i : Int) ((digVal p : Nat) : Int) ((i + p.length : Nat) : Int) (((c.toNat : Int) - 48) % 256) false) (numTold i (numOf ((p ++ [c]) ++ cs.takeWhile isDig) (cs.drop (cs.takeWhile isDig).length))) := by
          have ed : ((c.toNat : Int) - 48) % 256 = ((c.toNat - 48 : Nat) : Int) := by omega
          rw [ed]
          have hz' : (p ++ [c]).length ≤ 1 ∨ (p ++ [c]).head? ≠ some 48 := by
            cases p with
            | nil => exact .inl (by simp)
            | cons a q =>
              refine .inr ?_
              simp only [List.cons_append, List.head?_cons]
              rcases hz with hz | hz
              · have : q = [] := by simpa using hz
                subst this
                intro e
                exact hnought (by rw [Option.some.inj e])
              · simpa using hz
          by_cases hbig : ((digVal p : Nat) : Int) > (9223372036854775807 - ((c.toNat - 48 : Nat) : Int)) / 10
          · refine ⟨1, fun k hk => ?_⟩
            obtain ⟨k, rfl⟩ : ∃ m, k = m + 1 := ⟨k - 1, by omega⟩
            show token_number.j2 (k + 1) s _ _ _ _ _ = _
            rw [token_number.j2, if_neg (by decide), if_pos hbig]
            have hm := digVal_mono (p ++ [c]) (cs.takeWhile isDig)
            rw [digVal_snoc] at hm
            have hgt : maxI < digVal ((p ++ [c]) ++ cs.takeWhile isDig) := by unfold maxI; omega
            have e3 : ¬ (((p ++ [c]) ++ cs.takeWhile isDig).head? = some 48 ∧ 1 < ((p ++ [c]) ++ cs.takeWhile isDig).length) := by
              rintro ⟨a, b⟩
              cases p with
              | nil => simp [digVal] at hbig; omega
              | cons x q =>
                rcases hz' with hz' | hz'
                · simp at hz'
                · simp at a hz'; exact hz' a
            rw [numOf, if_neg e3, if_pos hgt]
            simp [numTold]
          · have hle : digVal (p ++ [c]) ≤ maxI := by rw [digVal_snoc]; unfold maxI; omega
            refine Ev.step (f := fun k => token_number.l0 k s (i : Int) ((digVal (p ++ [c]) : Nat) : Int) ((i + (p ++ [c]).length : Nat) : Int)) (fun k => ?_) ?_
            · show token_number.j2 (k + 1) s _ _ _ _ _ = _
              rw [token_number.j2, if_neg (by decide), if_neg hbig]
              have e5 : IntKind.u64.wrap (IntKind.u64.wrap (10 * ((digVal p : Nat) : Int)) + ((c.toNat - 48 : Nat) : Int)) = ((digVal (p ++ [c]) : Nat) : Int) := by
                rw [digVal_snoc, u64_small (x := 10 * ((digVal p : Nat) : Int)) (by omega) (by omega), u64_small (by omega) (by omega)]
                omega
              have e6 : wrap64 (((i + p.length : Nat) : Int) + 1) = ((i + (p ++ [c]).length : Nat) : Int) := by simp only [List.length_append, List.length_singleton]; unfold wrap64; omega
              rw [e5, e6]
            · exact num_go s hs i cs (p ++ [c]) h0 (by rw [List.length_append, List.length_singleton, ← Nat.add_assoc]; exact hd') (by simp; omega) hz' hle
        refine Ev.step (f := fun k => token_number.j2 k s (i : Int) ((digVal p : Nat) : Int) ((i + p.length : Nat) : Int) (((c.toNat : Int) - 48) % 256) false) (fun k => ?_) hj
        show token_number.j1 (k + 1) s _ _ _ _ = _
        rw [token_number.j1, if_pos rfl, if_pos (by omega), if_pos (by omega), hb]
        by_cases hone : p.length = 1
        · have ew : ((i + p.length : Nat) : Int) = wrap64 ((i : Int) + 1) := by rw [hone]; unfold wrap64; omega
          match p, hone with
          | [a], _ =>
            obtain ⟨hb0, hi0⟩ := hfirst a [] rfl
            rw [if_pos ew, if_pos (by omega), if_pos (by omega), hb0]
            have : ((a.toNat : Int) == 48) = false := by
              simp only [beq_eq_false_iff_ne]
              intro e
              exact hnought (by rw [show a = 48 from UInt8.toNat_inj.mp (by show a.toNat = 48; omega)])
            rw [this]
        · rw [if_neg (by unfold wrap64; omega)]
/-- A number's walk is what the lexer says of its digits. -/
theorem number_is (s : ByteArray) (hs : s.size ≤ 16384) (i : Nat) (cs : List UInt8) (h : s.data.toList.drop i = cs) (hi : i ≤ s.size) : Ev (fun k => token_number.f k s (i : Int)) (numTold i (num cs)) := by
  have := num_go s hs i cs [] (by simpa using h) (by simpa using h) (by simpa using hi) (.inl (by simp)) (by simp [digVal])
  have e : numOf ([] ++ cs.takeWhile isDig) (cs.drop (cs.takeWhile isDig).length) = num cs := by
    unfold numOf num
    have e2 : (cs.takeWhile isDig).head? = some 48 ↔ cs.head? = some 48 := by
      cases cs with
      | nil => simp
      | cons a l =>
        simp only [List.takeWhile_cons, List.head?_cons]
        constructor
        · split <;> simp
        · intro ha
          obtain rfl := Option.some.inj ha
          rw [if_pos (by decide)]; rfl
    simp only [List.nil_append, e2]
  rw [e] at this
  simpa [token_number.f, digVal] using this

/-! ### Texts -/
def bytesInt (l : List UInt8) : List Int := l.map fun c => (c.toNat : Int)
theorem strOf_bytes (l : List UInt8) : strOfNums (bytesInt l) = ⟨l.toArray⟩ := by
  have : ((bytesInt l).map fun n => UInt8.ofNat n.toNat) = l := by
    unfold bytesInt
    rw [List.map_map]
    have : (fun n : Int => UInt8.ofNat n.toNat) ∘ (fun c : UInt8 => (c.toNat : Int)) = id := by
      funext c
      simp
    rw [this, List.map_id]
  unfold strOfNums
  rw [this]
theorem hex_is (c : UInt8) : strings_IndexByte.f (⟨#[48, 49, 50, 51, 52, 53, 54, 55, 56, 57, 97, 98, 99, 100, 101, 102]⟩ : ByteArray) (c.toNat : Int) = some (match hexVal c with | some v => (v : Int) | none => -1) := by
  unfold strings_IndexByte.f
  congr 1
  have e : ((c.toNat : Int)).toNat.toUInt8 = c := by simp
  rw [e]
  have key : ∀ n : Nat, n < 256 → Lib.indexByte (⟨#[48, 49, 50, 51, 52, 53, 54, 55, 56, 57, 97, 98, 99, 100, 101, 102]⟩ : ByteArray).data.toList (UInt8.ofNat n) = (match hexVal (UInt8.ofNat n) with | some v => (v : Int) | none => -1) := by decide +kernel
  have := key c.toNat c.toNat_lt
  rwa [show UInt8.ofNat c.toNat = c by simp] at this
theorem hexVal_lt {c : UInt8} {v : Nat} (h : hexVal c = some v) : v < 16 := by
  unfold hexVal isDig at h
  split at h
  · rename_i h1; simp at h1; obtain rfl := Option.some.inj h; omega
  split at h
  · obtain rfl := Option.some.inj h; omega
  · cases h
/-- What a text's walk answers, of what it says. -/
def textTold (i : Int) : Step → ByteArray × Int × Int × Int
  | .tok _ t _ n => (⟨t.toArray⟩, i + n, 0, 0)
  | .bad o e => (⟨#[]⟩, 0, i + o, e)
  | .skip _ => (⟨#[]⟩, 0, 0, 0)
theorem cons_of_lt {s : ByteArray} {i : Nat} {cs : List UInt8} (h : s.data.toList.drop i = cs) (hlt : i < s.size) : ∃ c l, cs = c :: l := by
  cases cs with
  | nil => exact absurd (by omega) (drop_nil h)
  | cons c l => exact ⟨c, l, rfl⟩
theorem size_of_nil {s : ByteArray} {i : Nat} (h : s.data.toList.drop i = []) (hi : i ≤ s.size) : i = s.size := by
  have := drop_nil h
  omega
theorem text_hex (s : ByteArray) (hs : s.size ≤ 16384) (i o : Nat) (out : List UInt8) (j : Nat) (e : List UInt8) (x : Nat) (m : Int) (he : s.data.toList.drop (i + o + j + 1) = e) (hj : i + o + j < s.size) (hx16 : x < 16) (hm0 : 0 ≤ m) (hm2 : m < 2) (r : ByteArray × Int × Int × Int)
    (r1 : e = [] → r = (⟨#[]⟩, 0, ((i + o + j + 1 : Nat) : Int), 4))
    (r2 : ∀ g l, e = g :: l → hexVal g = none → r = (⟨#[]⟩, 0, ((i + o + j + 1 : Nat) : Int), 9))
    (r3 : ∀ g l v, e = g :: l → hexVal g = some v → Ev (fun k => token_text.l1 k s (i : Int) (bytesInt out) ((i + o + j + 1 : Nat) : Int) ((16 * x + v : Nat) : Int) (m + 1)) r) :
    Ev (fun k => token_text.l1 k s (i : Int) (bytesInt out) ((i + o + j : Nat) : Int) (x : Int) m) r := by
  have ew2 : wrap64 (((i + o + j : Nat) : Int) + 1) = ((i + o + j + 1 : Nat) : Int) := by rw [w64 (by omega) (by omega)]; rfl
  cases e with
  | nil =>
    have hz := size_of_nil he (by omega)
    refine ⟨1, fun k hk => ?_⟩
    obtain ⟨k, rfl⟩ : ∃ m, k = m + 1 := ⟨k - 1, by omega⟩
    show token_text.l1 (k + 1) s _ _ _ _ _ = _
    rw [token_text.l1, if_pos (by omega), ew2, if_pos (by omega), r1 rfl]
  | cons g l =>
    obtain ⟨hb3, hlt3, hd3⟩ := bt_get he
    cases hv : hexVal g with
    | none =>
      refine ⟨1, fun k hk => ?_⟩
      obtain ⟨k, rfl⟩ : ∃ m, k = m + 1 := ⟨k - 1, by omega⟩
      show token_text.l1 (k + 1) s _ _ _ _ _ = _
      rw [token_text.l1, if_pos (by omega), ew2, if_neg (by omega), if_pos (by omega), if_pos (by omega), hb3, hex_is, hv, r2 g l rfl hv]
      rfl
    | some v =>
      have hv16 := hexVal_lt hv
      refine Ev.step (fun k => ?_) (r3 g l v rfl hv)
      show token_text.l1 (k + 1) s _ _ _ _ _ = _
      rw [token_text.l1, if_pos (by omega), ew2, if_neg (by omega), if_pos (by omega), if_pos (by omega), hb3, hex_is, hv]
      simp only [Option.bind_some]
      rw [if_neg (by omega)]
      have e7 : wrap64 (wrap64 (16 * (x : Int)) + (v : Int)) = ((16 * x + v : Nat) : Int) := by
        rw [w64b (y := 16 * (x : Int)) (by omega) (by omega), w64b (by omega) (by omega)]
        omega
      have e8 : wrap64 (m + 1) = m + 1 := w64 hm0 (by omega)
      rw [e7, e8]
set_option maxHeartbeats 1000000 in
theorem text_go (s : ByteArray) (hs : s.size ≤ 16384) (i : Nat) : ∀ (n : Nat) (cs out : List UInt8) (o : Nat), cs.length < n → s.data.toList.drop (i + o) = cs → i + o ≤ s.size → out.length ≤ 4095 →
    Ev (fun k => token_text.l0 k s (i : Int) (bytesInt out) ((i + o : Nat) : Int)) (textTold i (textGo n cs o out))
  | 0, _, _, _, h, _, _, _ => absurd h (Nat.not_lt_zero _)
  | n + 1, [], out, o, hn, h, hi, ho => by
    have he := drop_nil h
    have hz := size_of_nil h hi
    refine ⟨2, fun k hk => ?_⟩
    obtain ⟨k, rfl⟩ : ∃ m, k = m + 2 := ⟨k - 2, by omega⟩
    show token_text.l0 (k + 1 + 1) s _ _ _ = _
    rw [token_text.l0, if_neg he, token_text.j1, if_neg (by decide), if_pos (by omega)]
    simp only [textGo, textTold]
    rw [show (s.size : Int) = (i : Int) + (o : Int) by omega]
    rfl
  | n + 1, c :: cs, out, o, hn, h, hi, ho => by
    obtain ⟨hb, hlt, hd⟩ := bt_get h
    have hlen : (bytesInt out).length = out.length := by simp [bytesInt]
    have hsnoc : ∀ x : UInt8, bytesInt out ++ [(x.toNat : Int)] = bytesInt (out ++ [x]) := fun x => by simp [bytesInt]
    by_cases hq : c.toNat = 34
    · refine ⟨2, fun k hk => ?_⟩
      obtain ⟨k, rfl⟩ : ∃ m, k = m + 2 := ⟨k - 2, by omega⟩
      show token_text.l0 (k + 1 + 1) s _ _ _ = _
      have e1 : (((c.toNat : Nat) : Int) != 34) = false := by simp; omega
      rw [token_text.l0, if_pos (by omega), if_pos (by omega), hb, e1, token_text.j1, if_neg (by decide), if_neg (by omega), w64 (by omega) (by omega), strOf_bytes]
      simp only [textGo, hq, if_true, textTold]
      rw [show ((i + o : Nat) : Int) + 1 = (i : Int) + ((o + 1 : Nat) : Int) by omega]
    · have e1 : (((c.toNat : Nat) : Int) != 34) = true := by simp; omega
      -- a byte is taken in
      have push : ∀ (x : UInt8) (m : Nat) (at_ : Int), 1 ≤ m → i + o + m ≤ s.size → at_ = ((i + o + m : Nat) : Int) → m ≤ (c :: cs).length →
          Ev (fun k => if ((bytesInt out).length : Int) = 4095 then some ((⟨#[]⟩ : ByteArray), (0 : Int), (i : Int), (2 : Int)) else (if (bytesInt out).length < 140737488355328 then token_text.l0 k s (i : Int) (bytesInt out ++ [(x.toNat : Int)]) at_ else none))
            (textTold i (if out.length = 4095 then .bad 0 2 else textGo n ((c :: cs).drop m) (o + m) (out ++ [x]))) := by
        intro x m at_ hm hle hat hml
        rw [hlen]
        by_cases hfull : out.length = 4095
        · rw [if_pos hfull]
          refine ⟨0, fun k _ => ?_⟩
          dsimp only
          rw [if_pos (by omega)]
          simp [textTold]
        · rw [if_neg hfull]
          refine Ev.congr (f := fun k => token_text.l0 k s (i : Int) (bytesInt (out ++ [x])) ((i + (o + m) : Nat) : Int)) (fun k => ?_) ?_
          · rw [if_neg (by omega), if_pos (by omega), hsnoc, hat, Nat.add_assoc]
          · refine text_go s hs i n _ _ _ (by simp at hn ⊢; omega) ?_ (by omega) (by simp; omega)
            rw [← Nat.add_assoc, ← List.drop_drop, h]
      refine Ev.step (f := fun k => token_text.j1 k s (i : Int) (bytesInt out) ((i + o : Nat) : Int) true) (fun k => ?_) ?_
      · show token_text.l0 (k + 1) s _ _ _ = _
        rw [token_text.l0, if_pos (by omega), if_pos (by omega), hb, e1]
      refine Ev.step (f := fun k => token_text.j2 k s (i : Int) (bytesInt out) ((i + o : Nat) : Int) ((c.toNat : Nat) : Int) (decide (c.toNat < 32 ∨ 126 < c.toNat))) (fun k => ?_) ?_
      · show token_text.j1 (k + 1) s _ _ _ _ = _
        rw [token_text.j1, if_pos rfl, if_pos (by omega), if_pos (by omega), hb]
        by_cases h32 : c.toNat < 32
        · rw [if_pos (by omega), decide_eq_true (Or.inl h32)]
        · rw [if_neg (by omega)]
          congr 1
          exact decide_eq_decide.2 (by omega)
      rw [textGo, if_neg hq]
      by_cases hbad : c.toNat < 32 ∨ 126 < c.toNat
      · refine ⟨1, fun k hk => ?_⟩
        obtain ⟨k, rfl⟩ : ∃ m, k = m + 1 := ⟨k - 1, by omega⟩
        show token_text.j2 (k + 1) s _ _ _ _ _ = _
        rw [token_text.j2, decide_eq_true hbad, if_pos rfl]
        simp only [chr, if_pos hbad, textTold]
        simp
      rw [decide_eq_false hbad]
      by_cases hesc : c.toNat = 92
      · have ew : wrap64 (((i + o : Nat) : Int) + 1) = ((i + o + 1 : Nat) : Int) := by rw [w64 (by omega) (by omega)]; rfl
        match cs, hd with
        | [], hd =>
          have hz := size_of_nil hd (by omega)
          refine ⟨1, fun k hk => ?_⟩
          obtain ⟨k, rfl⟩ : ∃ m, k = m + 1 := ⟨k - 1, by omega⟩
          show token_text.j2 (k + 1) s _ _ _ _ _ = _
          rw [token_text.j2, if_neg (by decide), if_pos (by omega), ew, if_pos (by omega), if_pos (by omega)]
          simp only [chr, if_neg hbad, hesc, ne_eq, not_true, if_false, textTold]
          rw [show (s.size : Int) = (i : Int) + ((o + 1 : Nat) : Int) by omega]
          rfl
        | d :: cs, hd =>
          obtain ⟨hb2, hlt2, hd2⟩ := bt_get hd
          refine Ev.step (f := fun k => token_text.j3 k s (i : Int) (bytesInt out) ((i + o + 1 : Nat) : Int) ((d.toNat : Nat) : Int) (decide (d.toNat = 34 ∨ d.toNat = 92))) (fun k => ?_) ?_
          · show token_text.j2 (k + 1) s _ _ _ _ _ = _
            rw [token_text.j2, if_neg (by decide), if_pos (by omega), ew, if_neg (by omega), if_pos (by omega), if_pos (by omega), hb2]
            by_cases h34 : d.toNat = 34
            · rw [if_pos (by omega), decide_eq_true (Or.inl h34)]
              congr 1
              simp; omega
            · rw [if_neg (by omega)]
              congr 1
              rw [Bool.eq_iff_iff]
              simp; omega
          by_cases hdq : d.toNat = 34 ∨ d.toNat = 92
          · rw [decide_eq_true hdq]
            have := push d 2 ((i + o + 2 : Nat) : Int) (by omega) (by omega) rfl (by simp)
            simp only [chr, if_neg hbad, hesc, ne_eq, not_true, if_false, if_pos hdq]
            refine Ev.step (fun k => ?_) this
            show token_text.j3 (k + 1) s _ _ _ _ _ = _
            rw [token_text.j3, if_pos rfl, if_pos (by omega), if_pos (by omega), hb2, w64 (by omega) (by omega)]
            rfl
          rw [decide_eq_false hdq]
          by_cases hn10 : d.toNat = 110
          · have := push 10 2 ((i + o + 2 : Nat) : Int) (by omega) (by omega) rfl (by simp)
            simp only [chr, if_neg hbad, hesc, ne_eq, not_true, if_false, if_neg hdq, if_pos hn10]
            refine Ev.step (fun k => ?_) this
            show token_text.j3 (k + 1) s _ _ _ _ _ = _
            rw [token_text.j3, if_neg (by decide), if_pos (by omega), w64 (by omega) (by omega)]
            rfl
          by_cases hx : d.toNat = 120
          · -- two digits
            have start : ∀ r, Ev (fun k => token_text.l1 k s (i : Int) (bytesInt out) ((i + o + 1 : Nat) : Int) ((0 : Nat) : Int) 0) r →
                Ev (fun k => token_text.j3 k s (i : Int) (bytesInt out) ((i + o + 1 : Nat) : Int) ((d.toNat : Nat) : Int) false) r := by
              intro r hr
              refine Ev.step (fun k => ?_) hr
              show token_text.j3 (k + 1) s _ _ _ _ _ = _
              rw [token_text.j3, if_neg (by decide), if_neg (by omega), if_pos (by omega)]
              rfl
            refine start _ ?_
            simp only [chr, if_neg hbad, hesc, ne_eq, not_true, if_false, if_neg hdq, if_neg hn10, hx]
            refine text_hex s hs i o out 1 cs 0 0 hd2 hlt2 (by omega) (by omega) (by omega) _ ?_ ?_ ?_
            · rintro rfl
              simp [textTold]
              omega
            · rintro g l rfl hv
              simp only [hv]
              simp [textTold]
              omega
            · rintro g l a rfl hv
              obtain ⟨hb4, hlt4, hd4⟩ := bt_get hd2
              have ha := hexVal_lt hv
              simp only [hv]
              rw [show 16 * 0 + a = a by omega]
              refine text_hex s hs i o out 2 l a 1 hd4 hlt4 ha (by omega) (by omega) _ ?_ ?_ ?_
              · rintro rfl
                simp [textTold]
                omega
              · rintro g2 l2 rfl hv2
                simp only [hv2]
                simp [textTold]
                omega
              · rintro g2 l2 b rfl hv2
                obtain ⟨hb5, hlt5, hd5⟩ := bt_get hd4
                have hbb := hexVal_lt hv2
                simp only [hv2]
                have := push (16 * a + b).toUInt8 4 ((i + o + 4 : Nat) : Int) (by omega) (by omega) rfl (by simp)
                refine Ev.step (fun k => ?_) this
                show token_text.l1 (k + 1) s _ _ _ _ _ = _
                have e9 : (((16 * a + b).toUInt8.toNat : Nat) : Int) = ((16 * a + b : Nat) : Int) % 256 := by simp
                rw [token_text.l1, if_neg (by omega), e9, w64 (by omega) (by omega)]
                rfl
          · refine ⟨1, fun k hk => ?_⟩
            obtain ⟨k, rfl⟩ : ∃ m, k = m + 1 := ⟨k - 1, by omega⟩
            show token_text.j3 (k + 1) s _ _ _ _ _ = _
            rw [token_text.j3, if_neg (by decide), if_neg (by omega), if_neg (by omega)]
            simp only [chr, if_neg hbad, hesc, ne_eq, not_true, if_false, if_neg hdq, if_neg hn10, hx, not_false_eq_true, if_true, textTold]
            rw [show ((i + o + 1 : Nat) : Int) = (i : Int) + ((o + 1 : Nat) : Int) by omega]
            rfl
      · have := push c 1 ((i + o + 1 : Nat) : Int) (by omega) (by omega) rfl (by simp)
        simp only [chr, if_neg hbad, hesc, ne_eq, not_false_eq_true, if_true]
        refine Ev.step (fun k => ?_) this
        show token_text.j2 (k + 1) s _ _ _ _ _ = _
        rw [token_text.j2, if_neg (by decide), if_neg (by omega), w64 (by omega) (by omega)]
        rfl
end Go.Proofs.Ytlbchdalimngjaa.Lex
