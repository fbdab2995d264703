/- Parts of a proof, joined by a program: Proved here: the statement prompterlaw09.ParseGoesOn holds for every input that the row speaks of (no condition of mine). -/
import Derived.Test.YtlbchdalimngjaaParseGoesOne
namespace Go.Proofs.Ytlbchdalimngjaa.Lex
open Go.RowKit Go.Proofs.YtlbchdalimngjaaW.PrintWords Go.Proofs.YtlbchdalimngjaaW.PrintLast Go.Proofs.Ytlbchdalimngjaa.P
set_option linter.unusedVariables false
set_option linter.unusedSimpArgs false
def isLow (c : UInt8) : Bool := decide (97 ≤ c.toNat) && decide (c.toNat ≤ 122)
def isDig (c : UInt8) : Bool := decide (48 ≤ c.toNat) && decide (c.toNat ≤ 57)
def isInn (c : UInt8) : Bool := isLow c || isDig c || decide (c.toNat = 95)
inductive Step where
  | skip (n : Nat)
  | tok (kind : Nat) (text : List UInt8) (val n : Nat)
  | bad (o e : Nat)
def digVal (ds : List UInt8) : Nat := ds.foldl (fun a d => 10 * a + (d.toNat - 48)) 0
def maxI : Nat := 9223372036854775807
def num (cs : List UInt8) : Step :=
  let ds := cs.takeWhile isDig
  if cs.head? = some 48 ∧ 1 < ds.length then .bad 1 9
  else if maxI < digVal ds then .bad 0 2
  else match (cs.drop ds.length).head? with
    | some c => if isInn c = true then .bad ds.length 9 else .tok 2 [] (digVal ds) ds.length
    | none => .tok 2 [] (digVal ds) ds.length
def hexVal (c : UInt8) : Option Nat := if isDig c = true then some (c.toNat - 48) else if 97 ≤ c.toNat ∧ c.toNat ≤ 102 then some (c.toNat - 87) else none
def chr : List UInt8 → Except (Nat × Nat) (UInt8 × Nat)
  | [] => .error (0, 4)
  | c :: cs => if c.toNat < 32 ∨ 126 < c.toNat then .error (0, 9) else if c.toNat ≠ 92 then .ok (c, 1) else
    match cs with
    | [] => .error (1, 4)
    | d :: cs => if d.toNat = 34 ∨ d.toNat = 92 then .ok (d, 2) else if d.toNat = 110 then .ok (10, 2) else if d.toNat ≠ 120 then .error (1, 9) else
      match cs with
      | [] => .error (2, 4)
      | h :: cs => match hexVal h with
        | none => .error (2, 9)
        | some a => match cs with
          | [] => .error (3, 4)
          | g :: _ => match hexVal g with
            | none => .error (3, 9)
            | some b => .ok ((16 * a + b).toUInt8, 4)
def textGo : Nat → List UInt8 → Nat → List UInt8 → Step
  | 0, _, _, _ => .bad 0 0
  | _ + 1, [], o, _ => .bad o 4
  | k + 1, c :: cs, o, out => if c.toNat = 34 then .tok 3 out 0 (o + 1) else
    match chr (c :: cs) with
    | .error (p, e) => .bad (o + p) e
    | .ok (x, n) => if out.length = 4095 then .bad 0 2 else textGo k ((c :: cs).drop n) (o + n) (out ++ [x])
def signs : List UInt8 := [40, 41, 123, 125, 91, 93, 44, 61, 60, 43, 45, 42, 47, 37, 33]
def sgn (c : UInt8) (cs : List UInt8) : Step :=
  if c.toNat = 33 ∧ cs.head? ≠ some 61 then (if cs = [] then .bad 1 4 else .bad 1 9)
  else if c ∉ signs then .bad 0 9
  else if (c.toNat = 61 ∨ c.toNat = 60 ∨ c.toNat = 33) ∧ cs.head? = some 61 then .tok 4 [c, 61] 0 2 else .tok 4 [c] 0 1
def one : List UInt8 → Step
  | [] => .skip 0
  | c :: cs =>
    if c.toNat = 32 ∨ c.toNat = 10 then .skip 1 else
    if c.toNat = 35 then .skip (1 + (cs.takeWhile fun d => decide (d.toNat ≠ 10)).length) else
    if isLow c = true then (if 24 < 1 + (cs.takeWhile isInn).length then .bad 0 2 else .tok 1 (c :: cs.takeWhile isInn) 0 (1 + (cs.takeWhile isInn).length)) else
    if isDig c = true then num (c :: cs) else
    if c.toNat = 34 then textGo ((c :: cs).length) cs 1 [] else sgn c cs
structure LTok where
  kind : Nat
  text : List UInt8
  val : Nat
  pos : Nat
def toks : Nat → List UInt8 → Nat → List LTok → Except (Nat × Nat) (List LTok)
  | 0, _, _, acc => .ok acc
  | _ + 1, [], _, acc => .ok acc
  | k + 1, c :: cs, p, acc => match one (c :: cs) with
    | .skip n => toks k ((c :: cs).drop n) (p + n) acc
    | .tok kd tx v n => toks k ((c :: cs).drop n) (p + n) (acc ++ [⟨kd, tx, v, p⟩])
    | .bad o e => .error (p + o, e)
def lexAll (cs : List UInt8) : Except (Nat × Nat) (List LTok) := if 16384 < cs.length then .error (0, 2) else toks (cs.length + 1) cs 0 []
def LTok.S (t : LTok) : S33 := ⟨t.kind, ⟨t.text.toArray⟩, t.val, t.pos⟩
def told : Except (Nat × Nat) (List LTok) → List S33 × Int × Int
  | .ok l => (l.map LTok.S, 0, 0)
  | .error (p, e) => ([], p, e)
section
variable (s : ByteArray)
theorem bt_get {s : ByteArray} {i : Nat} {c : UInt8} {cs : List UInt8} (h : s.data.toList.drop i = c :: cs) : bt s (i : Int) = (c.toNat : Int) ∧ i < s.size ∧ s.data.toList.drop (i + 1) = cs := by
  have hlt : i < s.data.toList.length := by
    rcases Nat.lt_or_ge i s.data.toList.length with h1 | h1
    · exact h1
    · rw [List.drop_eq_nil_of_le h1] at h; cases h
  rw [List.drop_eq_getElem_cons hlt] at h
  injection h with h1 h2
  have hs : i < s.size := by simpa using hlt
  refine ⟨?_, hs, h2⟩
  unfold bt
  rw [dif_pos (by simpa using hs)]
  subst h1
  rfl
theorem drop_nil {s : ByteArray} {i : Nat} (h : s.data.toList.drop i = []) : ¬ (i : Int) < (s.size : Int) := by
  have := List.drop_eq_nil_iff.1 h
  simp at this
  have e : s.data.size = s.size := rfl
  omega
end
theorem ite_Ev {α : Type} {c : Prop} [Decidable c] {f g : Nat → Option α} {r : α} (h1 : c → Ev f r) (h2 : ¬ c → Ev g r) : Ev (fun k => if c then f k else g k) r := by
  by_cases h : c
  · simpa [h] using h1 h
  · simpa [h] using h2 h
theorem letter_is (c : UInt8) : token_letter.f (c.toNat : Int) = some (isLow c) := by
  unfold token_letter.f isLow
  split
  · rw [decide_eq_true (show 97 ≤ c.toNat by omega), Bool.true_and]
    congr 1
    exact decide_eq_decide.2 (by omega)
  · rw [decide_eq_false (show ¬ 97 ≤ c.toNat by omega), Bool.false_and]
theorem digit_is (c : UInt8) : token_digit.f (c.toNat : Int) = some (isDig c) := by
  unfold token_digit.f isDig
  split
  · rw [decide_eq_true (show 48 ≤ c.toNat by omega), Bool.true_and]
    congr 1
    exact decide_eq_decide.2 (by omega)
  · rw [decide_eq_false (show ¬ 48 ≤ c.toNat by omega), Bool.false_and]
theorem inner_is (c : UInt8) : token_inner.f (c.toNat : Int) = some (isInn c) := by
  unfold token_inner.f isInn
  rw [letter_is, digit_is]
  simp only [Option.bind_some]
  cases isLow c <;> cases isDig c <;> simp
  rw [Bool.eq_iff_iff]
  simp
  omega
theorem w64b {y : Int} (h0 : 0 ≤ y) (h : y ≤ 1000000) : wrap64 y = y := by unfold wrap64; omega
theorem w64 {i : Int} (h0 : 0 ≤ i) (h : i ≤ 1000000) : wrap64 (i + 1) = i + 1 := by unfold wrap64; omega
theorem wd_is (s : ByteArray) (hs : s.size ≤ 16384) : ∀ (cs : List UInt8) (i : Nat), s.data.toList.drop i = cs → i ≤ s.size → Ev (fun k => token_All.wd k s (i : Int)) (((i + (cs.takeWhile isInn).length : Nat)) : Int)
  | [], i, h, hi => ⟨1, fun k hk => by
      obtain ⟨k, rfl⟩ : ∃ m, k = m + 1 := ⟨k - 1, by omega⟩
      show token_All.wd (k + 1) s (i : Int) = _
      rw [token_All.wd, if_neg (drop_nil h)]
      simp⟩
  | c :: cs, i, h, hi => by
    obtain ⟨hb, hlt, hd⟩ := bt_get h
    refine Ev.step (f := fun k => if isInn c = true then token_All.wd k s ((i + 1 : Nat) : Int) else some (i : Int)) (fun k => ?_) ?_
    · show token_All.wd (k + 1) s (i : Int) = _
      rw [token_All.wd, if_pos (by omega), hb, inner_is, w64 (by omega) (by omega)]
      rfl
    · refine ite_Ev (fun hc => ?_) (fun hc => ?_)
      · have := wd_is s hs cs (i + 1) hd (by omega)
        rw [List.takeWhile_cons_of_pos hc]
        simpa [Nat.add_assoc, Nat.add_comm 1] using this
      · rw [List.takeWhile_cons_of_neg hc]
        exact Ev.now _
theorem rem_is (s : ByteArray) (hs : s.size ≤ 16384) : ∀ (cs : List UInt8) (i : Nat), s.data.toList.drop i = cs → i ≤ s.size → Ev (fun k => token_All.rem k s (i : Int)) (((i + (cs.takeWhile fun d => decide (d.toNat ≠ 10)).length : Nat)) : Int)
  | [], i, h, hi => ⟨1, fun k hk => by
      obtain ⟨k, rfl⟩ : ∃ m, k = m + 1 := ⟨k - 1, by omega⟩
      show token_All.rem (k + 1) s (i : Int) = _
      rw [token_All.rem, if_neg (drop_nil h)]
      simp⟩
  | c :: cs, i, h, hi => by
    obtain ⟨hb, hlt, hd⟩ := bt_get h
    refine Ev.step (f := fun k => if c.toNat = 10 then some (i : Int) else token_All.rem k s ((i + 1 : Nat) : Int)) (fun k => ?_) ?_
    · show token_All.rem (k + 1) s (i : Int) = _
      rw [token_All.rem, if_pos (by omega), hb, w64 (by omega) (by omega)]
      by_cases e : c.toNat = 10
      · rw [if_pos (by omega), if_pos e]
      · rw [if_neg (by omega), if_neg e]; rfl
    · refine ite_Ev (fun hc => ?_) (fun hc => ?_)
      · rw [List.takeWhile_cons_of_neg (by simpa using hc)]
        exact Ev.now _
      · have := rem_is s hs cs (i + 1) hd (by omega)
        rw [List.takeWhile_cons_of_pos (by simpa using hc)]
        simpa [Nat.add_assoc, Nat.add_comm 1] using this
theorem digVal_snoc (p : List UInt8) (c : UInt8) : digVal (p ++ [c]) = 10 * digVal p + (c.toNat - 48) := by
  simp [digVal, List.foldl_append]
theorem digVal_mono (p q : List UInt8) : digVal p ≤ digVal (p ++ q) := by
  induction q generalizing p with
  | nil => simp
  | cons c q ih =>
    have h1 := ih (p ++ [c])
    rw [digVal_snoc] at h1
    simp only [List.append_assoc, List.cons_append, List.nil_append] at h1
    omega
theorem dig_bounds {c : UInt8} (h : isDig c = true) : 48 ≤ c.toNat ∧ c.toNat ≤ 57 := by
  simpa [isDig] using h
theorem u64_small {x : Int} (h0 : 0 ≤ x) (h1 : x < 18446744073709551616) : IntKind.u64.wrap x = x := by
  simp [IntKind.wrap, IntKind.bits, IntKind.signed]
  omega
def numTold (i : Int) : Step → Int × Int × Int × Int
  | .tok _ _ v n => ((v : Int), i + n, 0, 0)
  | .bad o e => (0, 0, i + o, e)
  | .skip _ => (0, 0, 0, 0)
def numOf (D rest : List UInt8) : Step :=
  if D.head? = some 48 ∧ 1 < D.length then .bad 1 9
  else if maxI < digVal D then .bad 0 2
  else match rest.head? with
    | some c => if isInn c = true then .bad D.length 9 else .tok 2 [] (digVal D) D.length
    | none => .tok 2 [] (digVal D) D.length
theorem num_go (s : ByteArray) (hs : s.size ≤ 16384) (i : Nat) : ∀ (cs p : List UInt8), s.data.toList.drop i = p ++ cs → s.data.toList.drop (i + p.length) = cs → i + p.length ≤ s.size →
    (p.length ≤ 1 ∨ p.head? ≠ some 48) → digVal p ≤ maxI →
    Ev (fun k => token_number.l0 k s (i : Int) ((digVal p : Nat) : Int) ((i + p.length : Nat) : Int)) (numTold i (numOf (p ++ cs.takeWhile isDig) (cs.drop (cs.takeWhile isDig).length)))
  | [], p, h, hd, hi, hz, hv => by
    have he := drop_nil hd
    refine Ev.step (f := fun k => token_number.j1 k s (i : Int) ((digVal p : Nat) : Int) ((i + p.length : Nat) : Int) false) (fun k => ?_) ?_
    · show token_number.l0 (k + 1) s _ _ _ = _
      rw [token_number.l0, if_neg he]
    refine ⟨1, fun k hk => ?_⟩
    obtain ⟨k, rfl⟩ : ∃ m, k = m + 1 := ⟨k - 1, by omega⟩
    show token_number.j1 (k + 1) s _ _ _ _ = _
    rw [token_number.j1, if_neg (by decide), if_neg he]
    have e1 : ¬ (p.head? = some 48 ∧ 1 < p.length) := by rintro ⟨a, b⟩; rcases hz with hz | hz <;> first | omega | exact hz a
    simp only [List.takeWhile_nil, List.append_nil, List.length_nil, List.drop_nil, numOf, if_neg e1, if_neg (Nat.not_lt.2 hv), List.head?_nil, numTold]
    have e2 : wrap64 ((digVal p : Nat) : Int) = ((digVal p : Nat) : Int) := by unfold wrap64; unfold maxI at hv; omega
    rw [e2]
    simp
  | c :: cs, p, h, hd, hi, hz, hv => by
    obtain ⟨hb, hlt, hd'⟩ := bt_get hd
    have e1 : ¬ (p.head? = some 48 ∧ 1 < p.length) := by rintro ⟨a, b⟩; rcases hz with hz | hz <;> first | omega | exact hz a
    refine Ev.step (f := fun k => token_number.j1 k s (i : Int) ((digVal p : Nat) : Int) ((i + p.length : Nat) : Int) (isDig c)) (fun k => ?_) ?_
    · show token_number.l0 (k + 1) s _ _ _ = _
      rw [token_number.l0, if_pos (by omega), if_pos (by omega), hb, digit_is]
      rfl
    cases hc : isDig c with
    | false =>
      refine ⟨1, fun k hk => ?_⟩
      obtain ⟨k, rfl⟩ : ∃ m, k = m + 1 := ⟨k - 1, by omega⟩
      show token_number.j1 (k + 1) s _ _ _ _ = _
      rw [token_number.j1, if_neg (by decide), if_pos (by omega), if_pos (by omega), hb, inner_is]
      rw [List.takeWhile_cons_of_neg (by simp [hc])]
      simp only [Option.bind_some, List.append_nil, List.length_nil, List.drop_zero, numOf, if_neg e1, if_neg (Nat.not_lt.2 hv), List.head?_cons]
      have e2 : wrap64 ((digVal p : Nat) : Int) = ((digVal p : Nat) : Int) := by unfold wrap64; unfold maxI at hv; omega
      rw [e2]
      cases isInn c <;> simp [numTold]
    | true =>
      obtain ⟨d1, d2⟩ := dig_bounds hc
      rw [List.takeWhile_cons_of_pos hc]
      have hdr : (c :: cs).drop (c :: cs.takeWhile isDig).length = cs.drop (cs.takeWhile isDig).length := by simp
      rw [hdr]
      have happ : p ++ c :: cs.takeWhile isDig = (p ++ [c]) ++ cs.takeWhile isDig := by simp
      rw [happ]
      have h0 : s.data.toList.drop i = (p ++ [c]) ++ cs := by rw [h]; simp
      have hfirst : ∀ a q, p = a :: q → bt s (i : Int) = (a.toNat : Int) ∧ i < s.size := by
        intro a q hp
        rw [hp] at h
        exact ⟨(bt_get h).1, (bt_get h).2.1⟩
      by_cases hnought : p = [48]
      · subst hnought
        obtain ⟨hb0, hi0⟩ := hfirst 48 [] rfl
        clear hv hz e1 hfirst
        refine ⟨2, fun k hk => ?_⟩
        obtain ⟨k, rfl⟩ : ∃ m, k = m + 2 := ⟨k - 2, by omega⟩
        show token_number.j1 (k + 1 + 1) s _ _ ((i + 1 : Nat) : Int) _ = _
        have hlt1 : i + 1 < s.size := hlt
        have ew : wrap64 ((i : Int) + 1) = ((i + 1 : Nat) : Int) := by rw [w64 (by omega) (by omega)]; rfl
        rw [token_number.j1, if_pos rfl, if_pos (by omega), if_pos (by omega), if_pos ew.symm, if_pos (by omega), if_pos (by omega), token_number.j2, hb0]
        simp only [show ((((48 : UInt8).toNat : Nat) : Int) == 48) = true from rfl, if_true]
        simp [numOf, numTold]
      · have hj : Ev (fun k => token_number.j2 k s (i : Int) ((digVal p : Nat) : Int) ((i + p.length : Nat) : Int) (((c.toNat : Int) - 48) % 256) false) (numTold i (numOf ((p ++ [c]) ++ cs.takeWhile isDig) (cs.drop (cs.takeWhile isDig).length))) := by
          have ed : ((c.toNat : Int) - 48) % 256 = ((c.toNat - 48 : Nat) : Int) := by omega
          rw [ed]
          have hz' : (p ++ [c]).length ≤ 1 ∨ (p ++ [c]).head? ≠ some 48 := by
            cases p with
            | nil => exact .inl (by simp)
            | cons a q =>
              refine .inr ?_
              simp only [List.cons_append, List.head?_cons]
              rcases hz with hz | hz
              · have : q = [] := by simpa using hz
                subst this
                intro e
                exact hnought (by rw [Option.some.inj e])
              · simpa using hz
          by_cases hbig : ((digVal p : Nat) : Int) > (9223372036854775807 - ((c.toNat - 48 : Nat) : Int)) / 10
          · refine ⟨1, fun k hk => ?_⟩
            obtain ⟨k, rfl⟩ : ∃ m, k = m + 1 := ⟨k - 1, by omega⟩
            show token_number.j2 (k + 1) s _ _ _ _ _ = _
            rw [token_number.j2, if_neg (by decide), if_pos hbig]
            have hm := digVal_mono (p ++ [c]) (cs.takeWhile isDig)
            rw [digVal_snoc] at hm
            have hgt : maxI < digVal ((p ++ [c]) ++ cs.takeWhile isDig) := by unfold maxI; omega
            have e3 : ¬ (((p ++ [c]) ++ cs.takeWhile isDig).head? = some 48 ∧ 1 < ((p ++ [c]) ++ cs.takeWhile isDig).length) := by
              rintro ⟨a, b⟩
              cases p with
              | nil => simp [digVal] at hbig; omega
              | cons x q =>
                rcases hz' with hz' | hz'
                · simp at hz'
                · simp at a hz'; exact hz' a
            rw [numOf, if_neg e3, if_pos hgt]
            simp [numTold]
          · have hle : digVal (p ++ [c]) ≤ maxI := by rw [digVal_snoc]; unfold maxI; omega
            refine Ev.step (f := fun k => token_number.l0 k s (i : Int) ((digVal (p ++ [c]) : Nat) : Int) ((i + (p ++ [c]).length : Nat) : Int)) (fun k => ?_) ?_
            · show token_number.j2 (k + 1) s _ _ _ _ _ = _
              rw [token_number.j2, if_neg (by decide), if_neg hbig]
              have e5 : IntKind.u64.wrap (IntKind.u64.wrap (10 * ((digVal p : Nat) : Int)) + ((c.toNat - 48 : Nat) : Int)) = ((digVal (p ++ [c]) : Nat) : Int) := by
                rw [digVal_snoc, u64_small (x := 10 * ((digVal p : Nat) : Int)) (by omega) (by omega), u64_small (by omega) (by omega)]
                omega
              have e6 : wrap64 (((i + p.length : Nat) : Int) + 1) = ((i + (p ++ [c]).length : Nat) : Int) := by simp only [List.length_append, List.length_singleton]; unfold wrap64; omega
              rw [e5, e6]
            · exact num_go s hs i cs (p ++ [c]) h0 (by rw [List.length_append, List.length_singleton, ← Nat.add_assoc]; exact hd') (by simp; omega) hz' hle
        refine Ev.step (f := fun k => token_number.j2 k s (i : Int) ((digVal p : Nat) : Int) ((i + p.length : Nat) : Int) (((c.toNat : Int) - 48) % 256) false) (fun k => ?_) hj
        show token_number.j1 (k + 1) s _ _ _ _ = _
        rw [token_number.j1, if_pos rfl, if_pos (by omega), if_pos (by omega), hb]
        by_cases hone : p.length = 1
        · have ew : ((i + p.length : Nat) : Int) = wrap64 ((i : Int) + 1) := by rw [hone]; unfold wrap64; omega
          match p, hone with
          | [a], _ =>
            obtain ⟨hb0, hi0⟩ := hfirst a [] rfl
            rw [if_pos ew, if_pos (by omega), if_pos (by omega), hb0]
            have : ((a.toNat : Int) == 48) = false := by
              simp only [beq_eq_false_iff_ne]
              intro e
              exact hnought (by rw [show a = 48 from UInt8.toNat_inj.mp (by show a.toNat = 48; omega)])
            rw [this]
        · rw [if_neg (by unfold wrap64; omega)]
theorem number_is (s : ByteArray) (hs : s.size ≤ 16384) (i : Nat) (cs : List UInt8) (h : s.data.toList.drop i = cs) (hi : i ≤ s.size) : Ev (fun k => token_number.f k s (i : Int)) (numTold i (num cs)) := by
  have := num_go s hs i cs [] (by simpa using h) (by simpa using h) (by simpa using hi) (.inl (by simp)) (by simp [digVal])
  have e : numOf ([] ++ cs.takeWhile isDig) (cs.drop (cs.takeWhile isDig).length) = num cs := by
    unfold numOf num
    have e2 : (cs.takeWhile isDig).head? = some 48 ↔ cs.head? = some 48 := by
      cases cs with
      | nil => simp
      | cons a l =>
        simp only [List.takeWhile_cons, List.head?_cons]
        constructor
        · split <;> simp
        · intro ha
          obtain rfl := Option.some.inj ha
          rw [if_pos (by decide)]; rfl
    simp only [List.nil_append, e2]
  rw [e] at this
  simpa [token_number.f, digVal] using this
def bytesInt (l : List UInt8) : List Int := l.map fun c => (c.toNat : Int)
theorem strOf_bytes (l : List UInt8) : strOfNums (bytesInt l) = ⟨l.toArray⟩ := by
  have : ((bytesInt l).map fun n => UInt8.ofNat n.toNat) = l := by
    unfold bytesInt
    rw [List.map_map]
    have : (fun n : Int => UInt8.ofNat n.toNat) ∘ (fun c : UInt8 => (c.toNat : Int)) = id := by
      funext c
      simp
    rw [this, List.map_id]
  unfold strOfNums
  rw [this]
theorem hex_is (c : UInt8) : strings_IndexByte.f (⟨#[48, 49, 50, 51, 52, 53, 54, 55, 56, 57, 97, 98, 99, 100, 101, 102]⟩ : ByteArray) (c.toNat : Int) = some (match hexVal c with | some v => (v : Int) | none => -1) := by
  unfold strings_IndexByte.f
  congr 1
  have e : ((c.toNat : Int)).toNat.toUInt8 = c := by simp
  rw [e]
  have key : ∀ n : Nat, n < 256 → Lib.indexByte (⟨#[48, 49, 50, 51, 52, 53, 54, 55, 56, 57, 97, 98, 99, 100, 101, 102]⟩ : ByteArray).data.toList (UInt8.ofNat n) = (match hexVal (UInt8.ofNat n) with | some v => (v : Int) | none => -1) := by decide +kernel
  have := key c.toNat c.toNat_lt
  rwa [show UInt8.ofNat c.toNat = c by simp] at this
theorem hexVal_lt {c : UInt8} {v : Nat} (h : hexVal c = some v) : v < 16 := by
  unfold hexVal isDig at h
  split at h
  · rename_i h1; simp at h1; obtain rfl := Option.some.inj h; omega
  split at h
  · obtain rfl := Option.some.inj h; omega
  · cases h
def textTold (i : Int) : Step → ByteArray × Int × Int × Int
  | .tok _ t _ n => (⟨t.toArray⟩, i + n, 0, 0)
  | .bad o e => (⟨#[]⟩, 0, i + o, e)
  | .skip _ => (⟨#[]⟩, 0, 0, 0)
theorem size_of_nil {s : ByteArray} {i : Nat} (h : s.data.toList.drop i = []) (hi : i ≤ s.size) : i = s.size := by
  have := drop_nil h
  omega
theorem text_hex (s : ByteArray) (hs : s.size ≤ 16384) (i o : Nat) (out : List UInt8) (j : Nat) (e : List UInt8) (x : Nat) (m : Int) (he : s.data.toList.drop (i + o + j + 1) = e) (hj : i + o + j < s.size) (hx16 : x < 16) (hm0 : 0 ≤ m) (hm2 : m < 2) (r : ByteArray × Int × Int × Int)
    (r1 : e = [] → r = (⟨#[]⟩, 0, ((i + o + j + 1 : Nat) : Int), 4))
    (r2 : ∀ g l, e = g :: l → hexVal g = none → r = (⟨#[]⟩, 0, ((i + o + j + 1 : Nat) : Int), 9))
    (r3 : ∀ g l v, e = g :: l → hexVal g = some v → Ev (fun k => token_text.l1 k s (i : Int) (bytesInt out) ((i + o + j + 1 : Nat) : Int) ((16 * x + v : Nat) : Int) (m + 1)) r) :
    Ev (fun k => token_text.l1 k s (i : Int) (bytesInt out) ((i + o + j : Nat) : Int) (x : Int) m) r := by
  have ew2 : wrap64 (((i + o + j : Nat) : Int) + 1) = ((i + o + j + 1 : Nat) : Int) := by rw [w64 (by omega) (by omega)]; rfl
  cases e with
  | nil =>
    have hz := size_of_nil he (by omega)
    refine ⟨1, fun k hk => ?_⟩
    obtain ⟨k, rfl⟩ : ∃ m, k = m + 1 := ⟨k - 1, by omega⟩
    show token_text.l1 (k + 1) s _ _ _ _ _ = _
    rw [token_text.l1, if_pos (by omega), ew2, if_pos (by omega), r1 rfl]
  | cons g l =>
    obtain ⟨hb3, hlt3, hd3⟩ := bt_get he
    cases hv : hexVal g with
    | none =>
      refine ⟨1, fun k hk => ?_⟩
      obtain ⟨k, rfl⟩ : ∃ m, k = m + 1 := ⟨k - 1, by omega⟩
      show token_text.l1 (k + 1) s _ _ _ _ _ = _
      rw [token_text.l1, if_pos (by omega), ew2, if_neg (by omega), if_pos (by omega), if_pos (by omega), hb3, hex_is, hv, r2 g l rfl hv]
      rfl
    | some v =>
      have hv16 := hexVal_lt hv
      refine Ev.step (fun k => ?_) (r3 g l v rfl hv)
      show token_text.l1 (k + 1) s _ _ _ _ _ = _
      rw [token_text.l1, if_pos (by omega), ew2, if_neg (by omega), if_pos (by omega), if_pos (by omega), hb3, hex_is, hv]
      simp only [Option.bind_some]
      rw [if_neg (by omega)]
      have e7 : wrap64 (wrap64 (16 * (x : Int)) + (v : Int)) = ((16 * x + v : Nat) : Int) := by
        rw [w64b (y := 16 * (x : Int)) (by omega) (by omega), w64b (by omega) (by omega)]
        omega
      have e8 : wrap64 (m + 1) = m + 1 := w64 hm0 (by omega)
      rw [e7, e8]
set_option maxHeartbeats 1000000 in
theorem text_go (s : ByteArray) (hs : s.size ≤ 16384) (i : Nat) : ∀ (n : Nat) (cs out : List UInt8) (o : Nat), cs.length < n → s.data.toList.drop (i + o) = cs → i + o ≤ s.size → out.length ≤ 4095 →
    Ev (fun k => token_text.l0 k s (i : Int) (bytesInt out) ((i + o : Nat) : Int)) (textTold i (textGo n cs o out))
  | 0, _, _, _, h, _, _, _ => absurd h (Nat.not_lt_zero _)
  | n + 1, [], out, o, hn, h, hi, ho => by
    have he := drop_nil h
    have hz := size_of_nil h hi
    refine ⟨2, fun k hk => ?_⟩
    obtain ⟨k, rfl⟩ : ∃ m, k = m + 2 := ⟨k - 2, by omega⟩
    show token_text.l0 (k + 1 + 1) s _ _ _ = _
    rw [token_text.l0, if_neg he, token_text.j1, if_neg (by decide), if_pos (by omega)]
    simp only [textGo, textTold]
    rw [show (s.size : Int) = (i : Int) + (o : Int) by omega]
    rfl
  | n + 1, c :: cs, out, o, hn, h, hi, ho => by
    obtain ⟨hb, hlt, hd⟩ := bt_get h
    have hlen : (bytesInt out).length = out.length := by simp [bytesInt]
    have hsnoc : ∀ x : UInt8, bytesInt out ++ [(x.toNat : Int)] = bytesInt (out ++ [x]) := fun x => by simp [bytesInt]
    by_cases hq : c.toNat = 34
    · refine ⟨2, fun k hk => ?_⟩
      obtain ⟨k, rfl⟩ : ∃ m, k = m + 2 := ⟨k - 2, by omega⟩
      show token_text.l0 (k + 1 + 1) s _ _ _ = _
      have e1 : (((c.toNat : Nat) : Int) != 34) = false := by simp; omega
      rw [token_text.l0, if_pos (by omega), if_pos (by omega), hb, e1, token_text.j1, if_neg (by decide), if_neg (by omega), w64 (by omega) (by omega), strOf_bytes]
      simp only [textGo, hq, if_true, textTold]
      rw [show ((i + o : Nat) : Int) + 1 = (i : Int) + ((o + 1 : Nat) : Int) by omega]
    · have e1 : (((c.toNat : Nat) : Int) != 34) = true := by simp; omega
      have push : ∀ (x : UInt8) (m : Nat) (at_ : Int), 1 ≤ m → i + o + m ≤ s.size → at_ = ((i + o + m : Nat) : Int) → m ≤ (c :: cs).length →
          Ev (fun k => if ((bytesInt out).length : Int) = 4095 then some ((⟨#[]⟩ : ByteArray), (0 : Int), (i : Int), (2 : Int)) else (if (bytesInt out).length < 140737488355328 then token_text.l0 k s (i : Int) (bytesInt out ++ [(x.toNat : Int)]) at_ else none))
            (textTold i (if out.length = 4095 then .bad 0 2 else textGo n ((c :: cs).drop m) (o + m) (out ++ [x]))) := by
        intro x m at_ hm hle hat hml
        rw [hlen]
        by_cases hfull : out.length = 4095
        · rw [if_pos hfull]
          refine ⟨0, fun k _ => ?_⟩
          dsimp only
          rw [if_pos (by omega)]
          simp [textTold]
        · rw [if_neg hfull]
          refine Ev.congr (f := fun k => token_text.l0 k s (i : Int) (bytesInt (out ++ [x])) ((i + (o + m) : Nat) : Int)) (fun k => ?_) ?_
          · rw [if_neg (by omega), if_pos (by omega), hsnoc, hat, Nat.add_assoc]
          · refine text_go s hs i n _ _ _ (by simp at hn ⊢; omega) ?_ (by omega) (by simp; omega)
            rw [← Nat.add_assoc, ← List.drop_drop, h]
      refine Ev.step (f := fun k => token_text.j1 k s (i : Int) (bytesInt out) ((i + o : Nat) : Int) true) (fun k => ?_) ?_
      · show token_text.l0 (k + 1) s _ _ _ = _
        rw [token_text.l0, if_pos (by omega), if_pos (by omega), hb, e1]
      refine Ev.step (f := fun k => token_text.j2 k s (i : Int) (bytesInt out) ((i + o : Nat) : Int) ((c.toNat : Nat) : Int) (decide (c.toNat < 32 ∨ 126 < c.toNat))) (fun k => ?_) ?_
      · show token_text.j1 (k + 1) s _ _ _ _ = _
        rw [token_text.j1, if_pos rfl, if_pos (by omega), if_pos (by omega), hb]
        by_cases h32 : c.toNat < 32
        · rw [if_pos (by omega), decide_eq_true (Or.inl h32)]
        · rw [if_neg (by omega)]
          congr 1
          exact decide_eq_decide.2 (by omega)
      rw [textGo, if_neg hq]
      by_cases hbad : c.toNat < 32 ∨ 126 < c.toNat
      · refine ⟨1, fun k hk => ?_⟩
        obtain ⟨k, rfl⟩ : ∃ m, k = m + 1 := ⟨k - 1, by omega⟩
        show token_text.j2 (k + 1) s _ _ _ _ _ = _
        rw [token_text.j2, decide_eq_true hbad, if_pos rfl]
        simp only [chr, if_pos hbad, textTold]
        simp
      rw [decide_eq_false hbad]
      by_cases hesc : c.toNat = 92
      · have ew : wrap64 (((i + o : Nat) : Int) + 1) = ((i + o + 1 : Nat) : Int) := by rw [w64 (by omega) (by omega)]; rfl
        match cs, hd with
        | [], hd =>
          have hz := size_of_nil hd (by omega)
          refine ⟨1, fun k hk => ?_⟩
          obtain ⟨k, rfl⟩ : ∃ m, k = m + 1 := ⟨k - 1, by omega⟩
          show token_text.j2 (k + 1) s _ _ _ _ _ = _
          rw [token_text.j2, if_neg (by decide), if_pos (by omega), ew, if_pos (by omega), if_pos (by omega)]
          simp only [chr, if_neg hbad, hesc, ne_eq, not_true, if_false, textTold]
          rw [show (s.size : Int) = (i : Int) + ((o + 1 : Nat) : Int) by omega]
          rfl
        | d :: cs, hd =>
          obtain ⟨hb2, hlt2, hd2⟩ := bt_get hd
          refine Ev.step (f := fun k => token_text.j3 k s (i : Int) (bytesInt out) ((i + o + 1 : Nat) : Int) ((d.toNat : Nat) : Int) (decide (d.toNat = 34 ∨ d.toNat = 92))) (fun k => ?_) ?_
          · show token_text.j2 (k + 1) s _ _ _ _ _ = _
            rw [token_text.j2, if_neg (by decide), if_pos (by omega), ew, if_neg (by omega), if_pos (by omega), if_pos (by omega), hb2]
            by_cases h34 : d.toNat = 34
            · rw [if_pos (by omega), decide_eq_true (Or.inl h34)]
              congr 1
              simp; omega
            · rw [if_neg (by omega)]
              congr 1
              rw [Bool.eq_iff_iff]
              simp; omega
          by_cases hdq : d.toNat = 34 ∨ d.toNat = 92
          · rw [decide_eq_true hdq]
            have := push d 2 ((i + o + 2 : Nat) : Int) (by omega) (by omega) rfl (by simp)
            simp only [chr, if_neg hbad, hesc, ne_eq, not_true, if_false, if_pos hdq]
            refine Ev.step (fun k => ?_) this
            show token_text.j3 (k + 1) s _ _ _ _ _ = _
            rw [token_text.j3, if_pos rfl, if_pos (by omega), if_pos (by omega), hb2, w64 (by omega) (by omega)]
            rfl
          rw [decide_eq_false hdq]
          by_cases hn10 : d.toNat = 110
          · have := push 10 2 ((i + o + 2 : Nat) : Int) (by omega) (by omega) rfl (by simp)
            simp only [chr, if_neg hbad, hesc, ne_eq, not_true, if_false, if_neg hdq, if_pos hn10]
            refine Ev.step (fun k => ?_) this
            show token_text.j3 (k + 1) s _ _ _ _ _ = _
            rw [token_text.j3, if_neg (by decide), if_pos (by omega), w64 (by omega) (by omega)]
            rfl
          by_cases hx : d.toNat = 120
          ·
            have start : ∀ r, Ev (fun k => token_text.l1 k s (i : Int) (bytesInt out) ((i + o + 1 : Nat) : Int) ((0 : Nat) : Int) 0) r →
                Ev (fun k => token_text.j3 k s (i : Int) (bytesInt out) ((i + o + 1 : Nat) : Int) ((d.toNat : Nat) : Int) false) r := by
              intro r hr
              refine Ev.step (fun k => ?_) hr
              show token_text.j3 (k + 1) s _ _ _ _ _ = _
              rw [token_text.j3, if_neg (by decide), if_neg (by omega), if_pos (by omega)]
              rfl
            refine start _ ?_
            simp only [chr, if_neg hbad, hesc, ne_eq, not_true, if_false, if_neg hdq, if_neg hn10, hx]
            refine text_hex s hs i o out 1 cs 0 0 hd2 hlt2 (by omega) (by omega) (by omega) _ ?_ ?_ ?_
            · rintro rfl
              simp [textTold]
              omega
            · rintro g l rfl hv
              simp only [hv]
              simp [textTold]
              omega
            · rintro g l a rfl hv
              obtain ⟨hb4, hlt4, hd4⟩ := bt_get hd2
              have ha := hexVal_lt hv
              simp only [hv]
              rw [show 16 * 0 + a = a by omega]
              refine text_hex s hs i o out 2 l a 1 hd4 hlt4 ha (by omega) (by omega) _ ?_ ?_ ?_
              · rintro rfl
                simp [textTold]
                omega
              · rintro g2 l2 rfl hv2
                simp only [hv2]
                simp [textTold]
                omega
              · rintro g2 l2 b rfl hv2
                obtain ⟨hb5, hlt5, hd5⟩ := bt_get hd4
                have hbb := hexVal_lt hv2
                simp only [hv2]
                have := push (16 * a + b).toUInt8 4 ((i + o + 4 : Nat) : Int) (by omega) (by omega) rfl (by simp)
                refine Ev.step (fun k => ?_) this
                show token_text.l1 (k + 1) s _ _ _ _ _ = _
                have e9 : (((16 * a + b).toUInt8.toNat : Nat) : Int) = ((16 * a + b : Nat) : Int) % 256 := by simp
                rw [token_text.l1, if_neg (by omega), e9, w64 (by omega) (by omega)]
                rfl
          · refine ⟨1, fun k hk => ?_⟩
            obtain ⟨k, rfl⟩ : ∃ m, k = m + 1 := ⟨k - 1, by omega⟩
            show token_text.j3 (k + 1) s _ _ _ _ _ = _
            rw [token_text.j3, if_neg (by decide), if_neg (by omega), if_neg (by omega)]
            simp only [chr, if_neg hbad, hesc, ne_eq, not_true, if_false, if_neg hdq, if_neg hn10, hx, not_false_eq_true, if_true, textTold]
            rw [show ((i + o + 1 : Nat) : Int) = (i : Int) + ((o + 1 : Nat) : Int) by omega]
            rfl
      · have := push c 1 ((i + o + 1 : Nat) : Int) (by omega) (by omega) rfl (by simp)
        simp only [chr, if_neg hbad, hesc, ne_eq, not_false_eq_true, if_true]
        refine Ev.step (fun k => ?_) this
        show token_text.j2 (k + 1) s _ _ _ _ _ = _
        rw [token_text.j2, if_neg (by decide), if_neg (by omega), w64 (by omega) (by omega)]
        rfl
end Go.Proofs.Ytlbchdalimngjaa.Lex
namespace Go.Proofs.Ytlbchdalimngjaa.Lex
open Go.RowKit Go.Proofs.YtlbchdalimngjaaW.PrintWords Go.Proofs.YtlbchdalimngjaaW.PrintLast Go.Proofs.Ytlbchdalimngjaa.P
set_option linter.unusedVariables false
set_option linter.unusedSimpArgs false
theorem ext_is {s : ByteArray} {i : Nat} {l : List UInt8} (h : s.data.toList.drop i = l) (n : Nat) : s.extract i (i + n) = ⟨(l.take n).toArray⟩ := by
  apply ByteArray.ext
  rw [ByteArray.data_extract]
  apply Array.toList_inj.mp
  rw [Array.toList_extract, List.extract_eq_take_drop, h]
  simp
theorem takeWhile_take (p : UInt8 → Bool) (l : List UInt8) : l.take (l.takeWhile p).length = l.takeWhile p := (List.prefix_iff_eq_take.1 (List.takeWhile_prefix p)).symm
theorem takeWhile_le (p : UInt8 → Bool) (l : List UInt8) : (l.takeWhile p).length ≤ l.length := (List.takeWhile_prefix p).length_le
def stepTold (i : Int) : Step → Step07
  | .skip n => .skip (i + n)
  | .tok kd tx v n => .tok ⟨kd, ⟨tx.toArray⟩, v, i⟩ (i + n)
  | .bad o e => .bad (i + o) e
theorem text_is (s : ByteArray) (hs : s.size ≤ 16384) (i : Nat) (c : UInt8) (cs : List UInt8) (h : s.data.toList.drop i = c :: cs) : Ev (fun k => token_text.f k s (i : Int)) (textTold i (textGo (cs.length + 1) cs 1 [])) := by
  obtain ⟨hb, hlt, hd⟩ := bt_get h
  have := text_go s hs i (cs.length + 1) cs [] 1 (by omega) hd (by omega) (by simp)
  refine Ev.congr (fun k => ?_) this
  show token_text.f k s (i : Int) = _
  rw [token_text.f, w64 (by omega) (by omega)]
  rfl
theorem index_signs (c : UInt8) : ∃ t, strings_IndexByte.f (⟨#[40, 41, 123, 125, 91, 93, 44, 61, 60, 43, 45, 42, 47, 37, 33]⟩ : ByteArray) (c.toNat : Int) = some t ∧ (t < 0 ↔ c ∉ signs) := by
  refine ⟨_, rfl, ?_⟩
  have e : ((c.toNat : Int)).toNat.toUInt8 = c := by simp
  rw [e]
  have key : ∀ n : Nat, n < 256 → (Lib.indexByte (⟨#[40, 41, 123, 125, 91, 93, 44, 61, 60, 43, 45, 42, 47, 37, 33]⟩ : ByteArray).data.toList (UInt8.ofNat n) < 0 ↔ UInt8.ofNat n ∉ signs) := by decide +kernel
  have := key c.toNat c.toNat_lt
  rwa [show UInt8.ofNat c.toNat = c by simp] at this
theorem index_two (c : UInt8) : ∃ t, strings_IndexByte.f (⟨#[61, 60, 33]⟩ : ByteArray) (c.toNat : Int) = some t ∧ (0 ≤ t ↔ (c.toNat = 61 ∨ c.toNat = 60 ∨ c.toNat = 33)) := by
  refine ⟨_, rfl, ?_⟩
  have e : ((c.toNat : Int)).toNat.toUInt8 = c := by simp
  rw [e]
  have key : ∀ n : Nat, n < 256 → (0 ≤ Lib.indexByte (⟨#[61, 60, 33]⟩ : ByteArray).data.toList (UInt8.ofNat n) ↔ ((UInt8.ofNat n).toNat = 61 ∨ (UInt8.ofNat n).toNat = 60 ∨ (UInt8.ofNat n).toNat = 33)) := by decide +kernel
  have := key c.toNat c.toNat_lt
  rwa [show UInt8.ofNat c.toNat = c by simp] at this
theorem toN (i : Nat) : ((i : Int)).toNat = i := rfl
theorem u8_eq {c : UInt8} {n : Nat} (hn : n < 256) (h : c.toNat = n) : c = UInt8.ofNat n := by rw [← h]; simp
theorem sg_is (s : ByteArray) (hs : s.size ≤ 16384) (i : Nat) (c : UInt8) (cs : List UInt8) (h : s.data.toList.drop i = c :: cs) (hne : ¬ (c.toNat = 33 ∧ cs.head? ≠ some 61)) :
    token_All.sg s (i : Int) (c.toNat : Int) ((i + 1 : Nat) : Int) = some (stepTold i (sgn c cs)) := by
  obtain ⟨hb, hlt, hd⟩ := bt_get h
  obtain ⟨t, ht, ht2⟩ := index_signs c
  obtain ⟨u, hu, hu2⟩ := index_two c
  unfold token_All.sg sgn
  rw [ht, if_neg hne]
  simp only [Option.bind_some]
  by_cases h1 : c ∉ signs
  · rw [if_pos (ht2.2 h1), if_pos h1]
    simp [stepTold]
  rw [if_neg (fun x => h1 (ht2.1 x)), if_neg h1, hu]
  simp only [Option.bind_some]
  have x1 : s.extract i (i + 1) = ⟨[c].toArray⟩ := by rw [ext_is h 1]; rfl
  have e1 : ((i + 1 : Nat) : Int).toNat = i + 1 := rfl
  rw [toN, e1, x1]
  by_cases h2 : c.toNat = 61 ∨ c.toNat = 60 ∨ c.toNat = 33
  · rw [if_pos (hu2.2 h2)]
    cases cs with
    | nil =>
      have := drop_nil hd
      rw [if_neg this, if_neg (by simp)]
      simp [stepTold]
    | cons d cs =>
      obtain ⟨hb2, hlt2, hd2⟩ := bt_get hd
      have x2 : s.extract i (i + 2) = ⟨[c, d].toArray⟩ := by rw [ext_is h 2]; rfl
      have ew : wrap64 (((i + 1 : Nat) : Int) + 1) = ((i + 2 : Nat) : Int) := by rw [w64 (by omega) (by omega)]; rfl
      have e2 : ((i + 2 : Nat) : Int).toNat = i + 2 := rfl
      rw [if_pos (by omega), hb2, ew, e2, x2]
      by_cases h3 : d.toNat = 61
      · have hd' : d = 61 := u8_eq (by decide) h3
        subst hd'
        rw [if_pos (by rfl), if_pos ⟨h2, by simp⟩]
        simp [stepTold]
      · have hd' : d ≠ 61 := fun e => h3 (by rw [e]; rfl)
        rw [if_neg (by omega), if_neg (by rintro ⟨_, b⟩; simp at b; exact hd' b)]
        simp [stepTold]
  · rw [if_neg (fun x => h2 (hu2.1 x)), if_neg (fun x => h2 x.1)]
    simp [stepTold]
theorem Ev.bindc {α β : Type} {f : Nat → Option α} {g : Nat → α → Option β} {a : α} {r : β} (h1 : Ev f a) (h2 : Ev (fun k => g k a) r) : Ev (fun k => (f k).bind (g k)) r := by
  obtain ⟨n, hn⟩ := h1
  obtain ⟨m, hm⟩ := h2
  refine ⟨max n m, fun k hk => ?_⟩
  show (f k).bind (g k) = some r
  rw [hn k (by omega)]
  exact hm k (by omega)
theorem text_ne {n : Nat} {cs : List UInt8} {o : Nat} {out : List UInt8} : ∀ {x}, textGo n cs o out ≠ .skip x := by
  induction n generalizing cs o out with
  | zero => intro x; simp [textGo]
  | succ n ih =>
    intro x
    cases cs with
    | nil => simp [textGo]
    | cons c cs =>
      rw [textGo]
      split
      · simp
      · split
        · simp
        · split
          · simp
          · exact ih
theorem text_kind {n : Nat} {cs : List UInt8} {o : Nat} {out : List UInt8} : ∀ {kd t v m}, textGo n cs o out = .tok kd t v m → kd = 3 ∧ v = 0 := by
  induction n generalizing cs o out with
  | zero => intro kd t v m h; simp [textGo] at h
  | succ n ih =>
    intro kd t v m h
    cases cs with
    | nil => simp [textGo] at h
    | cons c cs =>
      rw [textGo] at h
      split at h
      · simp at h; exact ⟨h.1.symm, h.2.2.1.symm⟩
      · split at h
        · simp at h
        · split at h
          · simp at h
          · exact ih h
theorem chr_ok {l : List UInt8} {x : UInt8} {m : Nat} (h : chr l = .ok (x, m)) : 1 ≤ m ∧ m ≤ l.length := by
  unfold chr at h
  repeat' split at h
  all_goals first | cases h; done | (simp at h; (obtain ⟨_, rfl⟩ := h); simp)
theorem chr_bad {l : List UInt8} {p e : Nat} (h : chr l = .error (p, e)) : e ≠ 0 ∧ p ≤ l.length := by
  unfold chr at h
  repeat' split at h
  all_goals first | cases h; done | (simp at h; (obtain ⟨rfl, rfl⟩ := h); simp)
theorem text_bad {n : Nat} {cs : List UInt8} {o : Nat} {out : List UInt8} (hn : cs.length < n) : ∀ {p e}, textGo n cs o out = .bad p e → e ≠ 0 := by
  induction n generalizing cs o out with
  | zero => exact absurd hn (Nat.not_lt_zero _)
  | succ n ih =>
    intro p e h
    cases cs with
    | nil => simp [textGo] at h; omega
    | cons c cs =>
      rw [textGo] at h
      by_cases hq : c.toNat = 34
      · rw [if_pos hq] at h; cases h
      rw [if_neg hq] at h
      generalize hc : chr (c :: cs) = q at h
      cases q with
      | error q => cases h; exact (chr_bad hc).1
      | ok q =>
        obtain ⟨x, m⟩ := q
        dsimp only at h
        obtain ⟨h1, h2⟩ := chr_ok hc
        split at h
        · cases h; decide
        · refine ih ?_ h
          simp at hn ⊢
          omega
theorem text_len {n : Nat} {cs : List UInt8} {o : Nat} {out : List UInt8} : ∀ {kd t v m}, textGo n cs o out = .tok kd t v m → o < m ∧ m ≤ o + cs.length := by
  induction n generalizing cs o out with
  | zero => intro kd t v m h; simp [textGo] at h
  | succ n ih =>
    intro kd t v m h
    cases cs with
    | nil => simp [textGo] at h
    | cons c cs =>
      rw [textGo] at h
      by_cases hq : c.toNat = 34
      · rw [if_pos hq] at h; cases h; simp
      rw [if_neg hq] at h
      generalize hc : chr (c :: cs) = q at h
      cases q with
      | error q => cases h
      | ok q =>
        obtain ⟨x, y⟩ := q
        dsimp only at h
        obtain ⟨h1, h2⟩ := chr_ok hc
        split at h
        · cases h
        · obtain ⟨a, b⟩ := ih h
          simp at a b h2 ⊢
          omega
theorem num_kind {cs : List UInt8} {x : Nat} : num cs ≠ .skip x := by
  unfold num
  dsimp only
  repeat' split
  all_goals simp
theorem num_tok {cs : List UInt8} {kd v m : Nat} {t : List UInt8} (h : num cs = .tok kd t v m) : kd = 2 ∧ t = [] ∧ m = (cs.takeWhile isDig).length := by
  unfold num at h
  dsimp only at h
  repeat' split at h
  all_goals first | cases h; done | (cases h; exact ⟨rfl, rfl, rfl⟩)
theorem num_bad {cs : List UInt8} {p e : Nat} (h : num cs = .bad p e) : e ≠ 0 := by
  unfold num at h
  dsimp only at h
  repeat' split at h
  all_goals first | cases h; done | (cases h; decide)
theorem one_is (s : ByteArray) (hs : s.size ≤ 16384) (i : Nat) (c : UInt8) (cs : List UInt8) (h : s.data.toList.drop i = c :: cs) :
    Ev (fun k => token_All.one k s (i : Int) (c.toNat : Int) ((i + 1 : Nat) : Int)) (stepTold i (one (c :: cs))) := by
  obtain ⟨hb, hlt, hd⟩ := bt_get h
  have ew : wrap64 ((i : Int) + 1) = ((i + 1 : Nat) : Int) := w64 (by omega) (by omega)
  rw [one]
  by_cases h1 : c.toNat = 32 ∨ c.toNat = 10
  · rw [if_pos h1]
    refine Ev.congr (fun k => ?_) (Ev.now _)
    show token_All.one k s _ _ _ = _
    unfold token_All.one
    rw [ew]
    by_cases h2 : (c.toNat : Int) = 32
    · rw [if_pos h2]; rfl
    · rw [if_neg h2, if_pos (by omega)]; rfl
  rw [if_neg h1]
  by_cases h2 : c.toNat = 35
  · rw [if_pos h2]
    have := rem_is s hs (c :: cs) i h (by omega)
    rw [List.takeWhile_cons_of_pos (by simp [h2])] at this
    refine Ev.congr (f := fun k => (token_All.rem k s (i : Int)).bind fun j => some (.skip j)) (fun k => ?_) (Ev.bindc this (Ev.congr (fun k => ?_) (Ev.now _)))
    · show token_All.one k s _ _ _ = _
      unfold token_All.one
      rw [if_neg (by omega), if_neg (by omega), if_pos (by omega)]
    · simp only [stepTold, List.length_cons]
      congr 2
      omega
  rw [if_neg h2]
  by_cases h3 : isLow c = true
  · rw [if_pos h3]
    have := wd_is s hs cs (i + 1) hd (by omega)
    have hle := takeWhile_le isInn cs
    have hcl : cs.length + (i + 1) = s.size := by
      have := congrArg List.length hd
      simp at this
      have e : s.data.size = s.size := rfl
      omega
    refine Ev.congr (fun k => ?_) (Ev.bindc (g := fun k j => if wrap64 (j - (i : Int)) > 24 then some (Step07.bad i 2) else if j ≤ (s.size : Int) then (if (i : Int) ≤ j then some (.tok ⟨1, s.extract i j.toNat, 0, i⟩ j) else none) else none) this (Ev.congr (fun k => ?_) (Ev.now _)))
    · show token_All.one k s _ _ _ = _
      unfold token_All.one
      rw [if_neg (by omega), if_neg (by omega), if_neg (by omega), letter_is, h3]
      simp only [Option.bind_some, if_true]
      rfl
    · have e1 : wrap64 (((i + 1 + (cs.takeWhile isInn).length : Nat) : Int) - (i : Int)) = ((1 + (cs.takeWhile isInn).length : Nat) : Int) := by
        rw [w64b (by omega) (by omega)]; omega
      have e2 : ((i + 1 + (cs.takeWhile isInn).length : Nat) : Int).toNat = i + (1 + (cs.takeWhile isInn).length) := by omega
      rw [e1, e2, ext_is h, Nat.add_comm 1, List.take_succ_cons, takeWhile_take]
      by_cases h4 : 24 < (cs.takeWhile isInn).length + 1
      · rw [if_pos (by omega), if_pos h4]; simp [stepTold]
      · rw [if_neg (by omega), if_neg h4, if_pos (by omega), if_pos (by omega)]
        simp only [stepTold]
        congr 2
        omega
  rw [if_neg h3]
  have h3' : isLow c = false := Bool.eq_false_iff.mpr h3
  have skip3 : ∀ k, token_All.one k s (i : Int) (c.toNat : Int) ((i + 1 : Nat) : Int) = (token_digit.f (c.toNat : Int)).bind fun b => if b = true then
    ((token_number.f k s i).bind fun q => if q.2.2.2 = 0 then some (.tok ⟨2, ⟨#[]⟩, q.1, i⟩ q.2.1) else some (.bad q.2.2.1 q.2.2.2)) else
  if (c.toNat : Int) = 34 then ((token_text.f k s i).bind fun q => if q.2.2.2 = 0 then some (.tok ⟨3, q.1, 0, i⟩ q.2.1) else some (.bad q.2.2.1 q.2.2.2)) else
  if (c.toNat : Int) = 33 then (if ((i + 1 : Nat) : Int) = (s.size : Int) then some (.bad ((i + 1 : Nat) : Int) 4) else if ((i + 1 : Nat) : Int) < (s.size : Int) then (if bt s ((i + 1 : Nat) : Int) = 61 then token_All.sg s i c.toNat ((i + 1 : Nat) : Int) else some (.bad ((i + 1 : Nat) : Int) 9)) else none) else
  token_All.sg s i c.toNat ((i + 1 : Nat) : Int) := by
    intro k
    unfold token_All.one
    rw [if_neg (by omega), if_neg (by omega), if_neg (by omega), letter_is, h3']
    simp only [Option.bind_some, Bool.false_eq_true, if_false]
  by_cases h4 : isDig c = true
  · rw [if_pos h4]
    have := number_is s hs i (c :: cs) h (by omega)
    refine Ev.congr (fun k => ?_) (Ev.bindc (g := fun k q => if q.2.2.2 = 0 then some (Step07.tok ⟨2, ⟨#[]⟩, q.1, i⟩ q.2.1) else some (.bad q.2.2.1 q.2.2.2)) this (Ev.congr (fun k => ?_) (Ev.now _)))
    · show token_All.one k s _ _ _ = _
      rw [skip3, digit_is, h4]
      simp only [Option.bind_some, if_true]
    · cases hn : num (c :: cs) with
      | skip x => exact absurd hn num_kind
      | tok kd t v m => obtain ⟨rfl, rfl, hm⟩ := num_tok hn; simp [numTold, stepTold]
      | bad p e => have := num_bad hn; simp [numTold, stepTold, this]
  rw [if_neg h4]
  have h4' : isDig c = false := Bool.eq_false_iff.mpr h4
  have skip4 : ∀ k, token_All.one k s (i : Int) (c.toNat : Int) ((i + 1 : Nat) : Int) =
  if (c.toNat : Int) = 34 then ((token_text.f k s i).bind fun q => if q.2.2.2 = 0 then some (.tok ⟨3, q.1, 0, i⟩ q.2.1) else some (.bad q.2.2.1 q.2.2.2)) else
  if (c.toNat : Int) = 33 then (if ((i + 1 : Nat) : Int) = (s.size : Int) then some (.bad ((i + 1 : Nat) : Int) 4) else if ((i + 1 : Nat) : Int) < (s.size : Int) then (if bt s ((i + 1 : Nat) : Int) = 61 then token_All.sg s i c.toNat ((i + 1 : Nat) : Int) else some (.bad ((i + 1 : Nat) : Int) 9)) else none) else
  token_All.sg s i c.toNat ((i + 1 : Nat) : Int) := by
    intro k
    rw [skip3, digit_is, h4']
    simp only [Option.bind_some, Bool.false_eq_true, if_false]
  clear skip3
  by_cases h5 : c.toNat = 34
  · rw [if_pos h5]
    have := text_is s hs i c cs h
    refine Ev.congr (fun k => ?_) (Ev.bindc (g := fun k q => if q.2.2.2 = 0 then some (Step07.tok ⟨3, q.1, 0, i⟩ q.2.1) else some (.bad q.2.2.1 q.2.2.2)) this (Ev.congr (fun k => ?_) (Ev.now _)))
    · show token_All.one k s _ _ _ = _
      rw [skip4, if_pos (by omega)]
    · rw [List.length_cons]
      cases hn : textGo (cs.length + 1) cs 1 [] with
      | skip x => exact absurd hn text_ne
      | tok kd t v m => obtain ⟨rfl, rfl⟩ := text_kind hn; simp [textTold, stepTold]
      | bad p e => have := text_bad (by omega) hn; simp [textTold, stepTold, this]
  rw [if_neg h5]
  refine Ev.congr (fun k => ?_) (Ev.now _)
  show token_All.one k s _ _ _ = _
  rw [skip4, if_neg (by omega)]
  by_cases h6 : c.toNat = 33
  · rw [if_pos (by omega)]
    cases cs with
    | nil =>
      have hz := size_of_nil hd (by omega)
      rw [if_pos (by omega), sgn, if_pos ⟨h6, by simp⟩, if_pos rfl]
      simp [stepTold]
    | cons d cs =>
      obtain ⟨hb2, hlt2, hd2⟩ := bt_get hd
      rw [if_neg (by omega), if_pos (by omega), hb2]
      by_cases h7 : d.toNat = 61
      · have hd' : d = 61 := u8_eq (by decide) h7
        rw [if_pos (by omega)]
        exact sg_is s hs i c (d :: cs) h (by rw [hd']; simp)
      · rw [if_neg (by omega), sgn, if_pos ⟨h6, by simp; intro e; exact h7 (by rw [e]; rfl)⟩, if_neg (by simp)]
        simp [stepTold]
  · rw [if_neg (by omega)]
    exact sg_is s hs i c cs h (fun x => h6 x.1)
theorem one_skip {c : UInt8} {cs : List UInt8} {n : Nat} (h : one (c :: cs) = .skip n) : 1 ≤ n ∧ n ≤ (c :: cs).length := by
  rw [one] at h
  have hle := takeWhile_le (fun d => decide (d.toNat ≠ 10)) cs
  by_cases h1 : c.toNat = 32 ∨ c.toNat = 10
  · rw [if_pos h1] at h; cases h; simp
  rw [if_neg h1] at h
  by_cases h2 : c.toNat = 35
  · rw [if_pos h2] at h; cases h; rw [List.length_cons]; omega
  rw [if_neg h2] at h
  split at h
  · split at h <;> cases h
  split at h
  · exact absurd h num_kind
  split at h
  · exact absurd h text_ne
  unfold sgn at h
  repeat' split at h
  all_goals cases h
theorem one_tok {c : UInt8} {cs : List UInt8} {kd v n : Nat} {t : List UInt8} (h : one (c :: cs) = .tok kd t v n) : 1 ≤ n ∧ n ≤ (c :: cs).length := by
  rw [one] at h
  split at h
  · cases h
  split at h
  · cases h
  split at h
  · have hle := takeWhile_le isInn cs
    split at h
    · cases h
    · cases h; rw [List.length_cons]; omega
  split at h
  · rename_i hd
    obtain ⟨_, _, rfl⟩ := num_tok h
    have hle := takeWhile_le isDig (c :: cs)
    rw [List.takeWhile_cons_of_pos hd, List.length_cons] at hle ⊢
    omega
  split at h
  · obtain ⟨a, b⟩ := text_len h
    rw [List.length_cons]
    omega
  unfold sgn at h
  split at h
  · split at h <;> cases h
  split at h
  · cases h
  split at h
  · rename_i hx
    cases h
    cases cs with
    | nil => simp at hx
    | cons d cs => simp
  · cases h; simp
theorem drop_len {s : ByteArray} {i : Nat} {cs : List UInt8} (h : s.data.toList.drop i = cs) (hi : i ≤ s.size) : i + cs.length = s.size := by
  have := congrArg List.length h
  simp at this
  have e : s.data.size = s.size := rfl
  omega
theorem all_go (s : ByteArray) (hs : s.size ≤ 16384) : ∀ (n : Nat) (cs : List UInt8) (i : Nat) (acc : List LTok), cs.length < n → s.data.toList.drop i = cs → i ≤ s.size → acc.length ≤ i →
    Ev (fun k => token_All.l0 k s (acc.map LTok.S) (i : Int)) (told (toks n cs i acc))
  | 0, _, _, _, h, _, _, _ => absurd h (Nat.not_lt_zero _)
  | n + 1, [], i, acc, hn, h, hi, ha => by
    refine Ev.step (f := fun _ => some (acc.map LTok.S, 0, 0)) (fun k => ?_) (Ev.now _)
    show token_All.l0 (k + 1) s _ _ = _
    rw [token_All.l0, if_neg (drop_nil h)]
  | n + 1, c :: cs, i, acc, hn, h, hi, ha => by
    obtain ⟨hb, hlt, hd⟩ := bt_get h
    have hsz := drop_len h hi
    refine Ev.step (f := fun k => (token_All.one k s (i : Int) (c.toNat : Int) ((i + 1 : Nat) : Int)).bind fun
      | .skip j => token_All.l0 k s (acc.map LTok.S) j
      | .tok x j => if (acc.map LTok.S).length < 3518437208883 then token_All.l0 k s (acc.map LTok.S ++ [x]) j else none
      | .bad a e => some ([], a, e)) (fun k => ?_) ?_
    · show token_All.l0 (k + 1) s _ _ = _
      rw [token_All.l0, if_pos (by omega), if_pos (by omega), hb, w64 (by omega) (by omega)]
      rfl
    refine Ev.bindc (one_is s hs i c cs h) ?_
    rw [toks]
    cases ho : one (c :: cs) with
    | skip m =>
      obtain ⟨m1, m2⟩ := one_skip ho
      have := all_go s hs n ((c :: cs).drop m) (i + m) acc (by simp at hn m2 ⊢; omega) (by rw [← List.drop_drop, h]) (by omega) (by omega)
      exact this
    | tok kd t v m =>
      obtain ⟨m1, m2⟩ := one_tok ho
      have := all_go s hs n ((c :: cs).drop m) (i + m) (acc ++ [⟨kd, t, v, i⟩]) (by simp at hn m2 ⊢; omega) (by rw [← List.drop_drop, h]) (by omega) (by simp; omega)
      refine Ev.congr (fun k => ?_) this
      simp only [stepTold, List.length_map, List.map_append, List.map_cons, List.map_nil]
      rw [if_pos (by omega)]
      rfl
    | bad p e =>
      exact Ev.now _
theorem all_is (s : ByteArray) : Ev (fun k => token_All.f k s) (told (lexAll s.data.toList)) := by
  have e : s.data.toList.length = s.size := by simp
  unfold lexAll
  rw [e]
  by_cases h : 16384 < s.size
  · rw [if_pos h]
    refine Ev.congr (fun k => ?_) (Ev.now _)
    show token_All.f k s = _
    rw [token_All.f, if_pos (by omega)]
    rfl
  · rw [if_neg h]
    have := all_go s (by omega) (s.size + 1) s.data.toList 0 [] (by omega) (by simp) (by omega) (by simp)
    refine Ev.congr (fun k => ?_) this
    show token_All.f k s = _
    rw [token_All.f, if_neg (by omega)]
    rfl
end Go.Proofs.Ytlbchdalimngjaa.Lex
namespace Go.Proofs.Ytlbchdalimngjaa.Lex
open Go.RowKit Go.Proofs.YtlbchdalimngjaaW.PrintWords Go.Proofs.YtlbchdalimngjaaW.PrintLast Go.Proofs.Ytlbchdalimngjaa.P
set_option linter.unusedVariables false
set_option linter.unusedSimpArgs false
theorem toks_fuel : ∀ (n m : Nat) (cs : List UInt8) (p : Nat) (acc : List LTok), cs.length < n → cs.length < m → toks n cs p acc = toks m cs p acc
  | 0, _, _, _, _, h, _ => absurd h (Nat.not_lt_zero _)
  | _, 0, _, _, _, _, h => absurd h (Nat.not_lt_zero _)
  | n + 1, m + 1, [], p, acc, _, _ => rfl
  | n + 1, m + 1, c :: cs, p, acc, hn, hm => by
    rw [toks, toks]
    cases ho : one (c :: cs) with
    | skip k =>
      obtain ⟨h1, h2⟩ := one_skip ho
      exact toks_fuel n m _ _ _ (by simp at hn h2 ⊢; omega) (by simp at hm h2 ⊢; omega)
    | tok kd t v k =>
      obtain ⟨h1, h2⟩ := one_tok ho
      exact toks_fuel n m _ _ _ (by simp at hn h2 ⊢; omega) (by simp at hm h2 ⊢; omega)
    | bad o e => rfl
def LTok.shift (d : Nat) (t : LTok) : LTok := ⟨t.kind, t.text, t.val, t.pos + d⟩
def after (acc : List LTok) (d : Nat) : Except (Nat × Nat) (List LTok) → Except (Nat × Nat) (List LTok)
  | .ok l => .ok (acc ++ l.map (LTok.shift d))
  | .error (p, e) => .error (p + d, e)
theorem toks_after : ∀ (n : Nat) (cs : List UInt8) (p d : Nat) (acc acc2 : List LTok), toks n cs (p + d) (acc ++ acc2.map (LTok.shift d)) = after acc d (toks n cs p acc2)
  | 0, _, _, _, _, _ => rfl
  | n + 1, [], _, _, _, _ => rfl
  | n + 1, c :: cs, p, d, acc, acc2 => by
    rw [toks, toks]
    cases ho : one (c :: cs) with
    | skip k =>
      have := toks_after n ((c :: cs).drop k) (p + k) d acc acc2
      dsimp only
      rw [← this]
      congr 1
      omega
    | tok kd t v k =>
      have := toks_after n ((c :: cs).drop k) (p + k) d acc (acc2 ++ [⟨kd, t, v, p⟩])
      dsimp only
      rw [← this, List.map_append, List.append_assoc]
      congr 1
      omega
    | bad o e => simp [after]; omega
def lx (cs : List UInt8) (p : Nat) (acc : List LTok) : Except (Nat × Nat) (List LTok) := toks (cs.length + 1) cs p acc
theorem lx_at (cs : List UInt8) (d : Nat) (acc : List LTok) : lx cs d acc = after acc d (lx cs 0 []) := by
  have := toks_after (cs.length + 1) cs 0 d acc []
  simpa [lx] using this
theorem lx_nil (p : Nat) (acc : List LTok) : lx [] p acc = .ok acc := rfl
theorem lx_skip {c : UInt8} {cs : List UInt8} {n : Nat} (h : one (c :: cs) = .skip n) (p : Nat) (acc : List LTok) : lx (c :: cs) p acc = lx ((c :: cs).drop n) (p + n) acc := by
  obtain ⟨h1, h2⟩ := one_skip h
  unfold lx
  rw [toks, h]
  exact toks_fuel _ _ _ _ _ (by simp at h2 ⊢; omega) (by omega)
theorem lx_tok {c : UInt8} {cs t : List UInt8} {kd v n : Nat} (h : one (c :: cs) = .tok kd t v n) (p : Nat) (acc : List LTok) : lx (c :: cs) p acc = lx ((c :: cs).drop n) (p + n) (acc ++ [⟨kd, t, v, p⟩]) := by
  obtain ⟨h1, h2⟩ := one_tok h
  unfold lx
  rw [toks, h]
  exact toks_fuel _ _ _ _ _ (by simp at h2 ⊢; omega) (by omega)
theorem lx_bad {c : UInt8} {cs : List UInt8} {o e : Nat} (h : one (c :: cs) = .bad o e) (p : Nat) (acc : List LTok) : lx (c :: cs) p acc = .error (p + o, e) := by
  unfold lx
  rw [toks, h]
end Go.Proofs.Ytlbchdalimngjaa.Lex
namespace Go.Proofs.Ytlbchdalimngjaa.P
open Go.RowKit Go.Proofs.YtlbchdalimngjaaW.PrintWords Go.Proofs.YtlbchdalimngjaaW.PrintLast Go.Proofs.YtlbchdalimngjaaW.PrintMore
attribute [local go_sem] max2_int min2_int max_two min_two max_three min_three max_four min_four
set_option linter.unusedVariables false
set_option linter.unusedSimpArgs false
mutual
def value_Name.j0 : Nat → ByteArray → Bool → Option (Bool)
  | 0, _, _ => none
  | k + 1, x0, x21 => if x21 = true then (some false) else (value_Name.l0 k x0 (x0.size : Int) 0)
def value_Name.l0 : Nat → ByteArray → Int → Int → Option (Bool)
  | 0, _, _, _ => none
  | k + 1, x0, x23, x24 => if x24 < x23 then (if 0 ≤ x24 then (if x24 < (x0.size : Int) then (if (bt x0 x24) < 97 then (if (bt x0 x24) < 48 then (if (bt x0 x24) = 95 then (value_Name.l0 k x0 x23 (wrap64 (x24 + 1))) else (some false)) else (if (bt x0 x24) > 57 then (if (bt x0 x24) = 95 then (value_Name.l0 k x0 x23 (wrap64 (x24 + 1))) else (some false)) else (value_Name.l0 k x0 x23 (wrap64 (x24 + 1))))) else (if (bt x0 x24) > 122 then (if (bt x0 x24) < 48 then (if (bt x0 x24) = 95 then (value_Name.l0 k x0 x23 (wrap64 (x24 + 1))) else (some false)) else (if (bt x0 x24) > 57 then (if (bt x0 x24) = 95 then (value_Name.l0 k x0 x23 (wrap64 (x24 + 1))) else (some false)) else (value_Name.l0 k x0 x23 (wrap64 (x24 + 1))))) else (value_Name.l0 k x0 x23 (wrap64 (x24 + 1))))) else (none)) else (none)) else (some true)
end
def value_Name.f (k : Nat) (a0 : ByteArray) : Option (Bool) := if a0.toList = ([] : List UInt8) then (value_Name.j0 k a0 true) else (if (a0.size : Int) > 24 then (value_Name.j0 k a0 true) else (if 0 < (a0.size : Int) then (if (bt a0 0) < 97 then (value_Name.j0 k a0 true) else (value_Name.j0 k a0 (decide ((bt a0 0) > 122)))) else (none)))
theorem value_Name.mono_l : ∀ k, (∀ y0 y1, LeO (value_Name.j0 k y0 y1) (value_Name.j0 (k + 1) y0 y1)) ∧ (∀ y0 y1 y2, LeO (value_Name.l0 k y0 y1 y2) (value_Name.l0 (k + 1) y0 y1 y2))
  | 0 => ⟨fun _ _ r h => by simp [value_Name.j0] at h, fun _ _ _ r h => by simp [value_Name.l0] at h⟩
  | k + 1 => by
    obtain ⟨ih0, ih1⟩ := value_Name.mono_l k
    refine ⟨?_, ?_⟩
    · intro y0 y1
      unfold value_Name.j0
      repeat' first
      | (with_reducible exact ih0 _ _)
      | (with_reducible exact ih1 _ _ _)
      | (with_reducible exact LeO.refl _)
      | (with_reducible exact LeO.none _)
      | (with_reducible refine LeO.ite ?_ ?_)
      | (with_reducible refine LeO.bind ?_ (fun _ => ?_))
      | exact ih0 _ _
      | exact ih1 _ _ _
      | exact LeO.none _
      | refine LeO.ite ?_ ?_
      | refine LeO.bind ?_ (fun _ => ?_)
    · intro y0 y1 y2
      unfold value_Name.l0
      repeat' first
      | (with_reducible exact ih0 _ _)
      | (with_reducible exact ih1 _ _ _)
      | (with_reducible exact LeO.refl _)
      | (with_reducible exact LeO.none _)
      | (with_reducible refine LeO.ite ?_ ?_)
      | (with_reducible refine LeO.bind ?_ (fun _ => ?_))
      | exact ih0 _ _
      | exact ih1 _ _ _
      | exact LeO.none _
      | refine LeO.ite ?_ ?_
      | refine LeO.bind ?_ (fun _ => ?_)
theorem value_Name.mono : ∀ a0 k, LeO (value_Name.f k a0) (value_Name.f (k + 1) a0) := by
  intro a0 k
  obtain ⟨ih0, ih1⟩ := value_Name.mono_l k
  unfold value_Name.f
  repeat' first
      | (with_reducible exact ih0 _ _)
      | (with_reducible exact ih1 _ _ _)
      | (with_reducible exact LeO.refl _)
      | (with_reducible exact LeO.none _)
      | (with_reducible refine LeO.ite ?_ ?_)
      | (with_reducible refine LeO.bind ?_ (fun _ => ?_))
      | exact ih0 _ _
      | exact ih1 _ _ _
      | exact LeO.none _
      | refine LeO.ite ?_ ?_
      | refine LeO.bind ?_ (fun _ => ?_)
set_option maxHeartbeats 8000000 in
set_option maxRecDepth 100000 in
theorem value_Name.calls (k : Nat) (a0 : ByteArray) (r : Bool) (w : World) (h : value_Name.f k a0 = some r) :
    Calls Try.prog 98 #[.string a0] w fun e w' => e = .returned (.bool r) ∧ Drawn0 w w' := by
  have H : (if a0.toList = ([] : List UInt8) then (value_Name.j0 k a0 true) else (if (a0.size : Int) > 24 then (value_Name.j0 k a0 true) else (if 0 < (a0.size : Int) then (if (bt a0 0) < 97 then (value_Name.j0 k a0 true) else (value_Name.j0 k a0 (decide ((bt a0 0) > 122)))) else (none)))) = some r := h
  clear h
  have HC2 := Aside0.mk H
  clear H
  go_enter Try.func98, Try.ntmps98
  go_upto_region 1 with (fail)
  go_cut [21] (fun v21 wc => ∃ (kq : Nat) (x21_1 : Bool), v21 = .bool x21_1 ∧ Aside0 (value_Name.j0 kq a0 x21_1 = some r) ∧ Aside0 (kq ≤ k) ∧ Drawn0 w wc)
  case first =>
    have H := HC2.out
    clear HC2
    by_cases c3 : a0.toList = ([] : List UInt8)
    · rw [if_pos c3] at H
      have c3b0 : (a0.toList == ([] : List UInt8)) = true := beq_iff_eq.mpr c3
      have c3b1 : (a0.toList != ([] : List UInt8)) = false := bne_eq_false_iff_eq.mpr c3
      clear c3
      (first | rw [c3b0] | (simp only [i64_w, i32_w]; rw [c3b0]) | rw [c3b1] | skip)
      have H' := Aside0.mk H
      clear H
      go_wp2
      go_meet
      case rel => exact ⟨_, (true), (by first | rfl | (simp; done) | (simp [*]; done)), H', ⟨by first | omega | exact Nat.le_refl _⟩, by repeat (first | exact Drawn0.refl _ | apply Drawn0.step)⟩
    · rw [if_neg c3] at H
      have c3b0 : (a0.toList == ([] : List UInt8)) = false := beq_eq_false_iff_ne.mpr c3
      have c3b1 : (a0.toList != ([] : List UInt8)) = true := bne_iff_ne.mpr c3
      (first | rw [c3b0] | (simp only [i64_w, i32_w]; rw [c3b0]) | rw [c3b1] | skip)
      by_cases c4 : (a0.size : Int) > 24
      · rw [if_pos c4] at H
        have c4b0 : decide (24 < (a0.size : Int)) = true := decide_eq_true c4
        have c4b1 : decide (24 < a0.size) = true := decide_eq_true (by omega)
        clear c4
        have H' := Aside0.mk H
        clear H
        go_wp2
        go_meet
        case rel => exact ⟨_, (true), (by first | rfl | (simp; done) | (simp [*]; done)), H', ⟨by first | omega | exact Nat.le_refl _⟩, by repeat (first | exact Drawn0.refl _ | apply Drawn0.step)⟩
      · rw [if_neg c4] at H
        have c4b0 : decide (24 < (a0.size : Int)) = false := decide_eq_false c4
        have c4b1 : decide (24 < a0.size) = false := decide_eq_false (by omega)
        clear c4
        by_cases c5 : 0 < (a0.size : Int)
        · rw [if_pos c5] at H
          have c5b0 : decide (0 < (a0.size : Int)) = true := decide_eq_true c5
          have c5b1 : decide (0 < a0.size) = true := decide_eq_true (by omega)
          clear c5
          by_cases c7 : (bt a0 0) < 97
          · rw [if_pos c7] at H
            have c7b0 : decide ((bt a0 0) < 97) = true := decide_eq_true c7
            clear c7
            have H' := Aside0.mk H
            clear H
            have p6 : 0 ≤ (0 : Int) := (by omega)
            have q6 : 0 < a0.size := (by have : (0 : Int) < (a0.size : Int) := of_decide_eq_true (by first | (with_reducible assumption) | assumption); omega)
            have hx6 : ∀ h : 0 < a0.size, ((a0[0]'h).toNat : Int) = bt a0 0 := bt_at a0 0
            clear p6
            have qi6 : (0 < (a0.size : Int)) = True := eq_true (of_decide_eq_true (by first | (with_reducible assumption) | assumption))
            replace q6 := eq_true q6
            go_wp2
            go_meet
            case rel => exact ⟨_, (true), (by first | rfl | (simp; done) | (simp [*]; done)), H', ⟨by first | omega | exact Nat.le_refl _⟩, by repeat (first | exact Drawn0.refl _ | apply Drawn0.step)⟩
          · rw [if_neg c7] at H
            have c7b0 : decide ((bt a0 0) < 97) = false := decide_eq_false c7
            clear c7
            have H' := Aside0.mk H
            clear H
            have p6 : 0 ≤ (0 : Int) := (by omega)
            have q6 : 0 < a0.size := (by have : (0 : Int) < (a0.size : Int) := of_decide_eq_true (by first | (with_reducible assumption) | assumption); omega)
            have hx6 : ∀ h : 0 < a0.size, ((a0[0]'h).toNat : Int) = bt a0 0 := bt_at a0 0
            clear p6
            have qi6 : (0 < (a0.size : Int)) = True := eq_true (of_decide_eq_true (by first | (with_reducible assumption) | assumption))
            replace q6 := eq_true q6
            have p8 : 0 ≤ (0 : Int) := (by omega)
            have q8 : 0 < a0.size := (by have : (0 : Int) < (a0.size : Int) := of_decide_eq_true (by first | (with_reducible assumption) | assumption); omega)
            have hx8 : ∀ h : 0 < a0.size, ((a0[0]'h).toNat : Int) = bt a0 0 := bt_at a0 0
            clear p8
            have qi8 : (0 < (a0.size : Int)) = True := eq_true (of_decide_eq_true (by first | (with_reducible assumption) | assumption))
            replace q8 := eq_true q8
            go_wp2
            go_meet
            case rel => exact ⟨_, (decide ((bt a0 0) > 122)), (by first | rfl | (simp; done) | (simp [*]; done)), H', ⟨by first | omega | exact Nat.le_refl _⟩, by repeat (first | exact Drawn0.refl _ | apply Drawn0.step)⟩
        · rw [if_neg c5] at H
          exact absurd H (by simp)
  case rest =>
    clear HC2
    try clear p2
    try clear c3
    try clear c3b0
    try clear c3b1
    try clear c4
    try clear c4b0
    try clear c4b1
    try clear c5
    try clear c5b0
    try clear c5b1
    try clear p6
    try clear q6
    try clear hx6
    try clear qi6
    try clear c7
    try clear c7b0
    try clear p8
    try clear q8
    try clear hx8
    try clear qi8
    try clear p6
    try clear p8
    try clear q6
    try clear q8
    obtain ⟨kq, x21_1, rfl, HA, HJ1, ⟨mc1, rfl⟩⟩ := hcut
    cases kq with
    | zero => exact absurd HA.out (by simp [value_Name.j0])
    | succ kj1 =>
      have H := HA.out
      clear HA
      simp only [value_Name.j0] at H
      by_cases c9 : x21_1 = true
      · subst c9
        have H1 : (some false) = some r := by rw [if_pos rfl] at H; exact H
        clear H
        have H := H1
        clear H1
        obtain rfl := Option.some.inj H
        go_wp2
        go_ret
        exact ⟨by first | rfl | (simp; done) | (simp [*]; done), by repeat (first | exact Drawn0.refl _ | apply Drawn0.step)⟩
      · replace c9 := Bool.eq_false_iff.mpr c9
        subst c9
        have H1 : (value_Name.l0 kj1 a0 (a0.size : Int) 0) = some r := by rw [if_neg (show ¬ (false = true) by decide)] at H; exact H
        clear H
        have H := H1
        clear H1
        have H' := Aside0.mk H
        clear H
        go_wp2
        go_loopg [24] kj1 (fun kq v24 w' => ∃ (x24_2 : Int), v24 = .int .i64 x24_2 ∧ Aside0 (value_Name.l0 kq a0 (a0.size : Int) x24_2 = some r) ∧ Aside0 (kq ≤ kj1) ∧ Drawn0 w w')
        case atStart => exact ⟨(0), (by first | rfl | (simp; done) | (simp [*]; done)), H', ⟨Nat.le_refl _⟩, by repeat (first | exact Drawn0.refl _ | apply Drawn0.step)⟩
        case round =>
          clear H'
          try clear c1
          try clear p2
          try clear c3
          try clear c3b0
          try clear c3b1
          try clear c4
          try clear c4b0
          try clear c4b1
          try clear c5
          try clear c5b0
          try clear c5b1
          try clear p6
          try clear q6
          try clear hx6
          try clear qi6
          try clear c7
          try clear c7b0
          try clear p8
          try clear q8
          try clear hx8
          try clear qi8
          try clear c9
          try clear p2
          try clear p6
          try clear p8
          try clear q6
          try clear q8
          obtain ⟨x24_2, rfl, HA, HK2, ⟨m2, rfl⟩⟩ := hrel
          cases gk with
          | zero => exact absurd HA.out (by simp [value_Name.l0])
          | succ k2 =>
            have H := HA.out
            clear HA
            simp only [value_Name.l0] at H
            by_cases c10 : x24_2 < (a0.size : Int)
            · rw [if_pos c10] at H
              have c10b0 : decide (x24_2 < (a0.size : Int)) = true := decide_eq_true c10
              clear c10
              by_cases c11 : 0 ≤ x24_2
              · rw [if_pos c11] at H
                have c11b0 : decide (0 ≤ x24_2) = true := decide_eq_true c11
                clear c11
                by_cases c12 : x24_2 < (a0.size : Int)
                · rw [if_pos c12] at H
                  have c12b0 : decide (x24_2 < (a0.size : Int)) = true := decide_eq_true c12
                  clear c12
                  by_cases c14 : (bt a0 x24_2) < 97
                  · rw [if_pos c14] at H
                    have c14b0 : decide ((bt a0 x24_2) < 97) = true := decide_eq_true c14
                    clear c14
                    by_cases c15 : (bt a0 x24_2) < 48
                    · rw [if_pos c15] at H
                      have c15b0 : decide ((bt a0 x24_2) < 48) = true := decide_eq_true c15
                      clear c15
                      by_cases c16 : (bt a0 x24_2) = 95
                      · rw [if_pos c16] at H
                        have c16b0 : ((bt a0 x24_2) == 95) = true := beq_iff_eq.mpr c16
                        have c16b1 : ((bt a0 x24_2) != 95) = false := bne_eq_false_iff_eq.mpr c16
                        clear c16
                        have H' := Aside0.mk H
                        clear H
                        have p13 : 0 ≤ (x24_2 : Int) := of_decide_eq_true (by first | (with_reducible assumption) | assumption)
                        have q13 : x24_2 < (a0.size : Int) := of_decide_eq_true (by first | (with_reducible assumption) | assumption)
                        have hx13 := bt_at a0 x24_2
                        replace p13 := eq_true p13
                        replace q13 := eq_true q13
                        go_wp2
                        go_roundg k2
                        case measure => have := HJ1.out; have := HK2.out; omega
                        case rel => exact ⟨(wrap64 (x24_2 + 1)), (by first | rfl | (simp; done) | (simp [*]; done)), H', ⟨by have := HJ1.out; have := HK2.out; omega⟩, by repeat (first | exact Drawn0.refl _ | apply Drawn0.step)⟩
                      · rw [if_neg c16] at H
                        have c16b0 : ((bt a0 x24_2) == 95) = false := beq_eq_false_iff_ne.mpr c16
                        have c16b1 : ((bt a0 x24_2) != 95) = true := bne_iff_ne.mpr c16
                        obtain rfl := Option.some.inj H
                        have p13 : 0 ≤ (x24_2 : Int) := of_decide_eq_true (by first | (with_reducible assumption) | assumption)
                        have q13 : x24_2 < (a0.size : Int) := of_decide_eq_true (by first | (with_reducible assumption) | assumption)
                        have hx13 := bt_at a0 x24_2
                        replace p13 := eq_true p13
                        replace q13 := eq_true q13
                        go_wp2
                        go_ret
                        exact ⟨by first | rfl | (simp; done) | (simp [*]; done), by repeat (first | exact Drawn0.refl _ | apply Drawn0.step)⟩
                    · rw [if_neg c15] at H
                      have c15b0 : decide ((bt a0 x24_2) < 48) = false := decide_eq_false c15
                      clear c15
                      by_cases c17 : (bt a0 x24_2) > 57
                      · rw [if_pos c17] at H
                        have c17b0 : decide (57 < (bt a0 x24_2)) = true := decide_eq_true c17
                        clear c17
                        by_cases c18 : (bt a0 x24_2) = 95
                        · rw [if_pos c18] at H
                          have c18b0 : ((bt a0 x24_2) == 95) = true := beq_iff_eq.mpr c18
                          have c18b1 : ((bt a0 x24_2) != 95) = false := bne_eq_false_iff_eq.mpr c18
                          clear c18
                          have H' := Aside0.mk H
                          clear H
                          have p13 : 0 ≤ (x24_2 : Int) := of_decide_eq_true (by first | (with_reducible assumption) | assumption)
                          have q13 : x24_2 < (a0.size : Int) := of_decide_eq_true (by first | (with_reducible assumption) | assumption)
                          have hx13 := bt_at a0 x24_2
                          replace p13 := eq_true p13
                          replace q13 := eq_true q13
                          go_wp2
                          go_roundg k2
                          case measure => have := HJ1.out; have := HK2.out; omega
                          case rel => exact ⟨(wrap64 (x24_2 + 1)), (by first | rfl | (simp; done) | (simp [*]; done)), H', ⟨by have := HJ1.out; have := HK2.out; omega⟩, by repeat (first | exact Drawn0.refl _ | apply Drawn0.step)⟩
                        · rw [if_neg c18] at H
                          have c18b0 : ((bt a0 x24_2) == 95) = false := beq_eq_false_iff_ne.mpr c18
                          have c18b1 : ((bt a0 x24_2) != 95) = true := bne_iff_ne.mpr c18
                          obtain rfl := Option.some.inj H
                          have p13 : 0 ≤ (x24_2 : Int) := of_decide_eq_true (by first | (with_reducible assumption) | assumption)
                          have q13 : x24_2 < (a0.size : Int) := of_decide_eq_true (by first | (with_reducible assumption) | assumption)
                          have hx13 := bt_at a0 x24_2
                          replace p13 := eq_true p13
                          replace q13 := eq_true q13
                          go_wp2
                          go_ret
                          exact ⟨by first | rfl | (simp; done) | (simp [*]; done), by repeat (first | exact Drawn0.refl _ | apply Drawn0.step)⟩
                      · rw [if_neg c17] at H
                        have c17b0 : decide (57 < (bt a0 x24_2)) = false := decide_eq_false c17
                        clear c17
                        have H' := Aside0.mk H
                        clear H
                        have p13 : 0 ≤ (x24_2 : Int) := of_decide_eq_true (by first | (with_reducible assumption) | assumption)
                        have q13 : x24_2 < (a0.size : Int) := of_decide_eq_true (by first | (with_reducible assumption) | assumption)
                        have hx13 := bt_at a0 x24_2
                        replace p13 := eq_true p13
                        replace q13 := eq_true q13
                        go_wp2
                        go_roundg k2
                        case measure => have := HJ1.out; have := HK2.out; omega
                        case rel => exact ⟨(wrap64 (x24_2 + 1)), (by first | rfl | (simp; done) | (simp [*]; done)), H', ⟨by have := HJ1.out; have := HK2.out; omega⟩, by repeat (first | exact Drawn0.refl _ | apply Drawn0.step)⟩
                  · rw [if_neg c14] at H
                    have c14b0 : decide ((bt a0 x24_2) < 97) = false := decide_eq_false c14
                    clear c14
                    by_cases c19 : (bt a0 x24_2) > 122
                    · rw [if_pos c19] at H
                      have c19b0 : decide (122 < (bt a0 x24_2)) = true := decide_eq_true c19
                      clear c19
                      by_cases c20 : (bt a0 x24_2) < 48
                      · rw [if_pos c20] at H
                        have c20b0 : decide ((bt a0 x24_2) < 48) = true := decide_eq_true c20
                        clear c20
                        by_cases c21 : (bt a0 x24_2) = 95
                        · rw [if_pos c21] at H
                          have c21b0 : ((bt a0 x24_2) == 95) = true := beq_iff_eq.mpr c21
                          have c21b1 : ((bt a0 x24_2) != 95) = false := bne_eq_false_iff_eq.mpr c21
                          clear c21
                          have H' := Aside0.mk H
                          clear H
                          have p13 : 0 ≤ (x24_2 : Int) := of_decide_eq_true (by first | (with_reducible assumption) | assumption)
                          have q13 : x24_2 < (a0.size : Int) := of_decide_eq_true (by first | (with_reducible assumption) | assumption)
                          have hx13 := bt_at a0 x24_2
                          replace p13 := eq_true p13
                          replace q13 := eq_true q13
                          go_wp2
                          go_roundg k2
                          case measure => have := HJ1.out; have := HK2.out; omega
                          case rel => exact ⟨(wrap64 (x24_2 + 1)), (by first | rfl | (simp; done) | (simp [*]; done)), H', ⟨by have := HJ1.out; have := HK2.out; omega⟩, by repeat (first | exact Drawn0.refl _ | apply Drawn0.step)⟩
                        · rw [if_neg c21] at H
                          have c21b0 : ((bt a0 x24_2) == 95) = false := beq_eq_false_iff_ne.mpr c21
                          have c21b1 : ((bt a0 x24_2) != 95) = true := bne_iff_ne.mpr c21
                          obtain rfl := Option.some.inj H
                          have p13 : 0 ≤ (x24_2 : Int) := of_decide_eq_true (by first | (with_reducible assumption) | assumption)
                          have q13 : x24_2 < (a0.size : Int) := of_decide_eq_true (by first | (with_reducible assumption) | assumption)
                          have hx13 := bt_at a0 x24_2
                          replace p13 := eq_true p13
                          replace q13 := eq_true q13
                          go_wp2
                          go_ret
                          exact ⟨by first | rfl | (simp; done) | (simp [*]; done), by repeat (first | exact Drawn0.refl _ | apply Drawn0.step)⟩
                      · rw [if_neg c20] at H
                        have c20b0 : decide ((bt a0 x24_2) < 48) = false := decide_eq_false c20
                        clear c20
                        by_cases c22 : (bt a0 x24_2) > 57
                        · rw [if_pos c22] at H
                          have c22b0 : decide (57 < (bt a0 x24_2)) = true := decide_eq_true c22
                          clear c22
                          by_cases c23 : (bt a0 x24_2) = 95
                          · rw [if_pos c23] at H
                            have c23b0 : ((bt a0 x24_2) == 95) = true := beq_iff_eq.mpr c23
                            have c23b1 : ((bt a0 x24_2) != 95) = false := bne_eq_false_iff_eq.mpr c23
                            clear c23
                            have H' := Aside0.mk H
                            clear H
                            have p13 : 0 ≤ (x24_2 : Int) := of_decide_eq_true (by first | (with_reducible assumption) | assumption)
                            have q13 : x24_2 < (a0.size : Int) := of_decide_eq_true (by first | (with_reducible assumption) | assumption)
                            have hx13 := bt_at a0 x24_2
                            replace p13 := eq_true p13
                            replace q13 := eq_true q13
                            go_wp2
                            go_roundg k2
                            case measure => have := HJ1.out; have := HK2.out; omega
                            case rel => exact ⟨(wrap64 (x24_2 + 1)), (by first | rfl | (simp; done) | (simp [*]; done)), H', ⟨by have := HJ1.out; have := HK2.out; omega⟩, by repeat (first | exact Drawn0.refl _ | apply Drawn0.step)⟩
                          · rw [if_neg c23] at H
                            have c23b0 : ((bt a0 x24_2) == 95) = false := beq_eq_false_iff_ne.mpr c23
                            have c23b1 : ((bt a0 x24_2) != 95) = true := bne_iff_ne.mpr c23
                            obtain rfl := Option.some.inj H
                            have p13 : 0 ≤ (x24_2 : Int) := of_decide_eq_true (by first | (with_reducible assumption) | assumption)
                            have q13 : x24_2 < (a0.size : Int) := of_decide_eq_true (by first | (with_reducible assumption) | assumption)
                            have hx13 := bt_at a0 x24_2
                            replace p13 := eq_true p13
                            replace q13 := eq_true q13
                            go_wp2
                            go_ret
                            exact ⟨by first | rfl | (simp; done) | (simp [*]; done), by repeat (first | exact Drawn0.refl _ | apply Drawn0.step)⟩
                        · rw [if_neg c22] at H
                          have c22b0 : decide (57 < (bt a0 x24_2)) = false := decide_eq_false c22
                          clear c22
                          have H' := Aside0.mk H
                          clear H
                          have p13 : 0 ≤ (x24_2 : Int) := of_decide_eq_true (by first | (with_reducible assumption) | assumption)
                          have q13 : x24_2 < (a0.size : Int) := of_decide_eq_true (by first | (with_reducible assumption) | assumption)
                          have hx13 := bt_at a0 x24_2
                          replace p13 := eq_true p13
                          replace q13 := eq_true q13
                          go_wp2
                          go_roundg k2
                          case measure => have := HJ1.out; have := HK2.out; omega
                          case rel => exact ⟨(wrap64 (x24_2 + 1)), (by first | rfl | (simp; done) | (simp [*]; done)), H', ⟨by have := HJ1.out; have := HK2.out; omega⟩, by repeat (first | exact Drawn0.refl _ | apply Drawn0.step)⟩
                    · rw [if_neg c19] at H
                      have c19b0 : decide (122 < (bt a0 x24_2)) = false := decide_eq_false c19
                      clear c19
                      have H' := Aside0.mk H
                      clear H
                      have p13 : 0 ≤ (x24_2 : Int) := of_decide_eq_true (by first | (with_reducible assumption) | assumption)
                      have q13 : x24_2 < (a0.size : Int) := of_decide_eq_true (by first | (with_reducible assumption) | assumption)
                      have hx13 := bt_at a0 x24_2
                      replace p13 := eq_true p13
                      replace q13 := eq_true q13
                      go_wp2
                      go_roundg k2
                      case measure => have := HJ1.out; have := HK2.out; omega
                      case rel => exact ⟨(wrap64 (x24_2 + 1)), (by first | rfl | (simp; done) | (simp [*]; done)), H', ⟨by have := HJ1.out; have := HK2.out; omega⟩, by repeat (first | exact Drawn0.refl _ | apply Drawn0.step)⟩
                · rw [if_neg c12] at H
                  exact absurd H (by simp)
              · rw [if_neg c11] at H
                exact absurd H (by simp)
            · rw [if_neg c10] at H
              have c10b0 : decide (x24_2 < (a0.size : Int)) = false := decide_eq_false c10
              clear c10
              obtain rfl := Option.some.inj H
              go_wp2
              go_ret
              exact ⟨by first | rfl | (simp; done) | (simp [*]; done), by repeat (first | exact Drawn0.refl _ | apply Drawn0.step)⟩
def tree_own.f (k : Nat) (a0 : ByteArray) : Option (Bool) := (value_Name.f k a0).bind fun t345 => (if t345 = true then ((token_Keyword.f a0).bind fun t346 => (some (!t346))) else (some false))
theorem tree_own.mono : ∀ a0 k, LeO (tree_own.f k a0) (tree_own.f (k + 1) a0) := by
  intro a0 k
  unfold tree_own.f
  repeat' first
      | (with_reducible exact value_Name.mono _ _)
      | (with_reducible exact LeO.refl _)
      | (with_reducible exact LeO.none _)
      | (with_reducible refine LeO.ite ?_ ?_)
      | (with_reducible refine LeO.bind ?_ (fun _ => ?_))
      | exact value_Name.mono _ _
      | exact LeO.none _
      | refine LeO.ite ?_ ?_
      | refine LeO.bind ?_ (fun _ => ?_)
set_option maxHeartbeats 8000000 in
set_option maxRecDepth 100000 in
theorem tree_own.calls (k : Nat) (a0 : ByteArray) (r : Bool) (w : World) (h : tree_own.f k a0 = some r) :
    Calls Try.prog 69 #[.string a0] w fun e w' => e = .returned (.bool r) ∧ Drawn0 w w' := by
  have H : ((value_Name.f k a0).bind fun t345 => (if t345 = true then ((token_Keyword.f a0).bind fun t346 => (some (!t346))) else (some false))) = some r := h
  clear h
  replace H := Option.bind_eq_some_iff.mp H
  obtain ⟨t345, A20, H⟩ := H
  replace H : (if t345 = true then ((token_Keyword.f a0).bind fun t346 => (some (!t346))) else (some false)) = some r := H
  have A2 := Aside0.mk A20
  clear A20
  by_cases c3 : t345 = true
  · subst c3
    have H1 : ((token_Keyword.f a0).bind fun t346 => (some (!t346))) = some r := by rw [if_pos rfl] at H; exact H
    clear H
    have H := H1
    clear H1
    replace H := Option.bind_eq_some_iff.mp H
    obtain ⟨t346, A40, H⟩ := H
    replace H : (some (!t346)) = some r := H
    have A4 := Aside0.mk A40
    clear A40
    obtain rfl := Option.some.inj H
    go_enter Try.func69, Try.ntmps69
    go_wp2_with (first | ((with_reducible refine gate_callee (f := 98) rfl ?_); refine goesL_ (some 4) rfl rfl Try.func98 (by kernel_rfl) rfl #[.string a0] rfl (by (try simp only [List.map_toArray, List.map_cons, List.map_nil]); first | done | rfl | (simp only [List.length_drop, List.length_take]; rfl)) ?_; (with_reducible refine (value_Name.calls k a0 true _ A2.out).mono ?_); rintro e w' ⟨rfl, ⟨nd, rfl⟩⟩; refine ⟨_, rfl, ?_⟩) | (go_at_call 14; (with_reducible refine (token_Keyword.calls a0 t346 _ A4.out).mono ?_); rintro e w' ⟨rfl, ⟨nd, rfl⟩⟩))
    go_ret
    exact ⟨by first | rfl | (simp; done) | (simp [*]; done), by repeat (first | exact Drawn0.refl _ | apply Drawn0.step)⟩
  · replace c3 := Bool.eq_false_iff.mpr c3
    subst c3
    have H1 : (some false) = some r := by rw [if_neg (show ¬ (false = true) by decide)] at H; exact H
    clear H
    have H := H1
    clear H1
    obtain rfl := Option.some.inj H
    go_enter Try.func69, Try.ntmps69
    go_wp2_with (first | ((with_reducible refine gate_callee (f := 98) rfl ?_); refine goesL_ (some 4) rfl rfl Try.func98 (by kernel_rfl) rfl #[.string a0] rfl (by (try simp only [List.map_toArray, List.map_cons, List.map_nil]); first | done | rfl | (simp only [List.length_drop, List.length_take]; rfl)) ?_; (with_reducible refine (value_Name.calls k a0 false _ A2.out).mono ?_); rintro e w' ⟨rfl, ⟨nd, rfl⟩⟩; refine ⟨_, rfl, ?_⟩))
    go_ret
    exact ⟨by first | rfl | (simp; done) | (simp [*]; done), by repeat (first | exact Drawn0.refl _ | apply Drawn0.step)⟩
def tree_params.f (a0 : Int) (a1 : Int) (a2 : Int) : Option (Bool) := if a0 < (wrap64 (a1 - 1)) then (if a2 = 2 then (some true) else (if a0 = (wrap64 (a1 - 1)) then (some (a2 == 3)) else (some false))) else (if a0 = (wrap64 (a1 - 1)) then (some (a2 == 3)) else (some false))
set_option maxHeartbeats 8000000 in
set_option maxRecDepth 100000 in
theorem tree_params.calls (a0 : Int) (a1 : Int) (a2 : Int) (r : Bool) (w : World) (h : tree_params.f a0 a1 a2 = some r) :
    Calls Try.prog 70 #[.int .i64 a0, .int .i64 a1, .int .u8 a2] w fun e w' => e = .returned (.bool r) ∧ Drawn0 w w' := by
  have H : (if a0 < (wrap64 (a1 - 1)) then (if a2 = 2 then (some true) else (if a0 = (wrap64 (a1 - 1)) then (some (a2 == 3)) else (some false))) else (if a0 = (wrap64 (a1 - 1)) then (some (a2 == 3)) else (some false))) = some r := h
  clear h
  by_cases c4 : a0 < (wrap64 (a1 - 1))
  · rw [if_pos c4] at H
    have c4b0 : decide (a0 < (wrap64 (a1 - 1))) = true := decide_eq_true c4
    clear c4
    by_cases c5 : a2 = 2
    · rw [if_pos c5] at H
      have c5b0 : (a2 == 2) = true := beq_iff_eq.mpr c5
      have c5b1 : (a2 != 2) = false := bne_eq_false_iff_eq.mpr c5
      clear c5
      obtain rfl := Option.some.inj H
      go_enter Try.func70, Try.ntmps70
      go_wp2
      go_ret
      exact ⟨by first | rfl | (simp; done) | (simp [*]; done), by repeat (first | exact Drawn0.refl _ | apply Drawn0.step)⟩
    · rw [if_neg c5] at H
      have c5b0 : (a2 == 2) = false := beq_eq_false_iff_ne.mpr c5
      have c5b1 : (a2 != 2) = true := bne_iff_ne.mpr c5
      by_cases c6 : a0 = (wrap64 (a1 - 1))
      · rw [if_pos c6] at H
        have c6b0 : (a0 == (wrap64 (a1 - 1))) = true := beq_iff_eq.mpr c6
        have c6b1 : (a0 != (wrap64 (a1 - 1))) = false := bne_eq_false_iff_eq.mpr c6
        clear c6
        obtain rfl := Option.some.inj H
        go_enter Try.func70, Try.ntmps70
        go_wp2
        go_ret
        exact ⟨by first | rfl | (simp; done) | (simp [*]; done), by repeat (first | exact Drawn0.refl _ | apply Drawn0.step)⟩
      · rw [if_neg c6] at H
        have c6b0 : (a0 == (wrap64 (a1 - 1))) = false := beq_eq_false_iff_ne.mpr c6
        have c6b1 : (a0 != (wrap64 (a1 - 1))) = true := bne_iff_ne.mpr c6
        obtain rfl := Option.some.inj H
        go_enter Try.func70, Try.ntmps70
        go_wp2
        go_ret
        exact ⟨by first | rfl | (simp; done) | (simp [*]; done), by repeat (first | exact Drawn0.refl _ | apply Drawn0.step)⟩
  · rw [if_neg c4] at H
    have c4b0 : decide (a0 < (wrap64 (a1 - 1))) = false := decide_eq_false c4
    clear c4
    by_cases c7 : a0 = (wrap64 (a1 - 1))
    · rw [if_pos c7] at H
      have c7b0 : (a0 == (wrap64 (a1 - 1))) = true := beq_iff_eq.mpr c7
      have c7b1 : (a0 != (wrap64 (a1 - 1))) = false := bne_eq_false_iff_eq.mpr c7
      clear c7
      obtain rfl := Option.some.inj H
      go_enter Try.func70, Try.ntmps70
      go_wp2
      go_ret
      exact ⟨by first | rfl | (simp; done) | (simp [*]; done), by repeat (first | exact Drawn0.refl _ | apply Drawn0.step)⟩
    · rw [if_neg c7] at H
      have c7b0 : (a0 == (wrap64 (a1 - 1))) = false := beq_eq_false_iff_ne.mpr c7
      have c7b1 : (a0 != (wrap64 (a1 - 1))) = true := bne_iff_ne.mpr c7
      obtain rfl := Option.some.inj H
      go_enter Try.func70, Try.ntmps70
      go_wp2
      go_ret
      exact ⟨by first | rfl | (simp; done) | (simp [*]; done), by repeat (first | exact Drawn0.refl _ | apply Drawn0.step)⟩
def tree_nothing.f (a0 : Int) (a1 : Int) (a2 : Int) : Option (Bool) := some false
set_option maxHeartbeats 8000000 in
set_option maxRecDepth 100000 in
theorem tree_nothing.calls (a0 : Int) (a1 : Int) (a2 : Int) (r : Bool) (w : World) (h : tree_nothing.f a0 a1 a2 = some r) :
    Calls Try.prog 71 #[.int .i64 a0, .int .i64 a1, .int .u8 a2] w fun e w' => e = .returned (.bool r) ∧ Drawn0 w w' := by
  have H : (some false) = some r := h
  clear h
  obtain rfl := Option.some.inj H
  go_enter Try.func71, Try.ntmps71
  go_wp2
  go_ret
  exact ⟨by first | rfl | (simp; done) | (simp [*]; done), by repeat (first | exact Drawn0.refl _ | apply Drawn0.step)⟩
def tree_empty.f (a0 : ByteArray) : Option (Bool) := some (a0.toList == ([] : List UInt8))
set_option maxHeartbeats 8000000 in
set_option maxRecDepth 100000 in
theorem tree_empty.calls (a0 : ByteArray) (r : Bool) (w : World) (h : tree_empty.f a0 = some r) :
    Calls Try.prog 72 #[.string a0] w fun e w' => e = .returned (.bool r) ∧ Drawn0 w w' := by
  have H : (some (a0.toList == ([] : List UInt8))) = some r := h
  clear h
  obtain rfl := Option.some.inj H
  go_enter Try.func72, Try.ntmps72
  go_wp2
  go_ret
  exact ⟨by first | rfl | (simp; done) | (simp [*]; done), by repeat (first | exact Drawn0.refl _ | apply Drawn0.step)⟩
def tree_stmt.f (a0 : Int) (a1 : Int) (a2 : Int) : Option (Bool) := (tree_Statement.f a2).bind fun t347 => (some t347)
set_option maxHeartbeats 8000000 in
set_option maxRecDepth 100000 in
theorem tree_stmt.calls (a0 : Int) (a1 : Int) (a2 : Int) (r : Bool) (w : World) (h : tree_stmt.f a0 a1 a2 = some r) :
    Calls Try.prog 73 #[.int .i64 a0, .int .i64 a1, .int .u8 a2] w fun e w' => e = .returned (.bool r) ∧ Drawn0 w w' := by
  have H : ((tree_Statement.f a2).bind fun t347 => (some t347)) = some r := h
  clear h
  replace H := Option.bind_eq_some_iff.mp H
  obtain ⟨t347, A40, H⟩ := H
  replace H : (some t347) = some r := H
  have A4 := Aside0.mk A40
  clear A40
  obtain rfl := Option.some.inj H
  go_enter Try.func73, Try.ntmps73
  go_wp2_with (first | ((with_reducible refine gate_callee (f := 18) rfl ?_); refine goesL_ (some 8) rfl rfl Try.func18 (by kernel_rfl) rfl #[.int .u8 a2] rfl (by (try simp only [List.map_toArray, List.map_cons, List.map_nil]); first | done | rfl | (simp only [List.length_drop, List.length_take]; rfl)) ?_; (with_reducible refine (tree_Statement.calls a2 t347 _ A4.out).mono ?_); rintro e w' ⟨rfl, ⟨nd, rfl⟩⟩; refine ⟨_, rfl, ?_⟩))
  go_ret
  exact ⟨by first | rfl | (simp; done) | (simp [*]; done), by repeat (first | exact Drawn0.refl _ | apply Drawn0.step)⟩
def tree_headed.f (k : Nat) (a0 : Int) (a1 : Int) (a2 : Int) : Option (Bool) := if a0 = 0 then ((tree_Expression.f k a2).bind fun t348 => (if t348 = true then (some true) else (if a0 > 0 then (some (a2 == 3)) else (some false)))) else (if a0 > 0 then (some (a2 == 3)) else (some false))
theorem tree_headed.mono : ∀ a0 a1 a2 k, LeO (tree_headed.f k a0 a1 a2) (tree_headed.f (k + 1) a0 a1 a2) := by
  intro a0 a1 a2 k
  unfold tree_headed.f
  repeat' first
      | (with_reducible exact tree_Expression.mono _ _)
      | (with_reducible exact LeO.refl _)
      | (with_reducible exact LeO.none _)
      | (with_reducible refine LeO.ite ?_ ?_)
      | (with_reducible refine LeO.bind ?_ (fun _ => ?_))
      | exact tree_Expression.mono _ _
      | exact LeO.none _
      | refine LeO.ite ?_ ?_
      | refine LeO.bind ?_ (fun _ => ?_)
set_option maxHeartbeats 8000000 in
set_option maxRecDepth 100000 in
theorem tree_headed.calls (k : Nat) (a0 : Int) (a1 : Int) (a2 : Int) (r : Bool) (w : World) (h : tree_headed.f k a0 a1 a2 = some r) :
    Calls Try.prog 74 #[.int .i64 a0, .int .i64 a1, .int .u8 a2] w fun e w' => e = .returned (.bool r) ∧ Drawn0 w w' := by
  have H : (if a0 = 0 then ((tree_Expression.f k a2).bind fun t348 => (if t348 = true then (some true) else (if a0 > 0 then (some (a2 == 3)) else (some false)))) else (if a0 > 0 then (some (a2 == 3)) else (some false))) = some r := h
  clear h
  by_cases c4 : a0 = 0
  · rw [if_pos c4] at H
    have c4b0 : (a0 == 0) = true := beq_iff_eq.mpr c4
    have c4b1 : (a0 != 0) = false := bne_eq_false_iff_eq.mpr c4
    clear c4
    replace H := Option.bind_eq_some_iff.mp H
    obtain ⟨t348, A50, H⟩ := H
    replace H : (if t348 = true then (some true) else (if a0 > 0 then (some (a2 == 3)) else (some false))) = some r := H
    have A5 := Aside0.mk A50
    clear A50
    by_cases c6 : t348 = true
    · subst c6
      have H1 : (some true) = some r := by rw [if_pos rfl] at H; exact H
      clear H
      have H := H1
      clear H1
      obtain rfl := Option.some.inj H
      go_enter Try.func74, Try.ntmps74
      go_wp2_with (first | (go_at_call 16; (with_reducible refine (tree_Expression.calls k a2 true _ A5.out).mono ?_); rintro e w' ⟨rfl, ⟨nd, rfl⟩⟩))
      go_ret
      exact ⟨by first | rfl | (simp; done) | (simp [*]; done), by repeat (first | exact Drawn0.refl _ | apply Drawn0.step)⟩
    · replace c6 := Bool.eq_false_iff.mpr c6
      subst c6
      have H1 : (if a0 > 0 then (some (a2 == 3)) else (some false)) = some r := by rw [if_neg (show ¬ (false = true) by decide)] at H; exact H
      clear H
      have H := H1
      clear H1
      by_cases c7 : a0 > 0
      · rw [if_pos c7] at H
        have c7b0 : decide (0 < a0) = true := decide_eq_true c7
        clear c7
        obtain rfl := Option.some.inj H
        go_enter Try.func74, Try.ntmps74
        go_wp2_with (first | (go_at_call 16; (with_reducible refine (tree_Expression.calls k a2 false _ A5.out).mono ?_); rintro e w' ⟨rfl, ⟨nd, rfl⟩⟩))
        go_ret
        exact ⟨by first | rfl | (simp; done) | (simp [*]; done), by repeat (first | exact Drawn0.refl _ | apply Drawn0.step)⟩
      · rw [if_neg c7] at H
        have c7b0 : decide (0 < a0) = false := decide_eq_false c7
        clear c7
        obtain rfl := Option.some.inj H
        go_enter Try.func74, Try.ntmps74
        go_wp2_with (first | (go_at_call 16; (with_reducible refine (tree_Expression.calls k a2 false _ A5.out).mono ?_); rintro e w' ⟨rfl, ⟨nd, rfl⟩⟩))
        go_ret
        exact ⟨by first | rfl | (simp; done) | (simp [*]; done), by repeat (first | exact Drawn0.refl _ | apply Drawn0.step)⟩
  · rw [if_neg c4] at H
    have c4b0 : (a0 == 0) = false := beq_eq_false_iff_ne.mpr c4
    have c4b1 : (a0 != 0) = true := bne_iff_ne.mpr c4
    by_cases c8 : a0 > 0
    · rw [if_pos c8] at H
      have c8b0 : decide (0 < a0) = true := decide_eq_true c8
      clear c8
      obtain rfl := Option.some.inj H
      go_enter Try.func74, Try.ntmps74
      go_wp2
      go_ret
      exact ⟨by first | rfl | (simp; done) | (simp [*]; done), by repeat (first | exact Drawn0.refl _ | apply Drawn0.step)⟩
    · rw [if_neg c8] at H
      have c8b0 : decide (0 < a0) = false := decide_eq_false c8
      clear c8
      obtain rfl := Option.some.inj H
      go_enter Try.func74, Try.ntmps74
      go_wp2
      go_ret
      exact ⟨by first | rfl | (simp; done) | (simp [*]; done), by repeat (first | exact Drawn0.refl _ | apply Drawn0.step)⟩
end Go.Proofs.Ytlbchdalimngjaa.P
namespace Go.Proofs.Ytlbchdalimngjaa.Tree
open Go.RowKit Go.Proofs.YtlbchdalimngjaaW.PrintWords Go.Proofs.YtlbchdalimngjaaW.PrintLast Go.Proofs.Ytlbchdalimngjaa.P Go.Proofs.Ytlbchdalimngjaa.Lex
set_option linter.unusedVariables false
set_option linter.unusedSimpArgs false
def nameL (l : List UInt8) : Bool := decide (l.length ≤ 24) && match l with
  | [] => false
  | c :: cs => isLow c && cs.all isInn
theorem inn_num (c : UInt8) : isInn c = true ↔ (97 ≤ c.toNat ∧ c.toNat ≤ 122) ∨ (48 ≤ c.toNat ∧ c.toNat ≤ 57) ∨ c.toNat = 95 := by
  unfold isInn isLow isDig
  simp [or_assoc]
theorem low_num (c : UInt8) : isLow c = true ↔ (97 ≤ c.toNat ∧ c.toNat ≤ 122) := by
  unfold isLow
  simp
theorem value_go (s : ByteArray) (hs : s.size ≤ 24) : ∀ (cs : List UInt8) (i : Nat), s.data.toList.drop i = cs → i ≤ s.size → Ev (fun k => value_Name.l0 k s (s.size : Int) (i : Int)) (cs.all isInn)
  | [], i, h, hi => by
    refine Ev.step (f := fun _ => some _) (fun k => ?_) (Ev.now _)
    show value_Name.l0 (k + 1) s _ _ = _
    rw [value_Name.l0, if_neg (drop_nil h)]
    rfl
  | c :: cs, i, h, hi => by
    obtain ⟨hb, hlt, hd⟩ := bt_get h
    have hc := inn_num c
    have w1 : wrap64 ((i : Int) + 1) = ((i + 1 : Nat) : Int) := w64 (by omega) (by omega)
    by_cases hin : isInn c = true
    · have hc2 := hc.1 hin
      rw [List.all_cons, hin, Bool.true_and]
      refine Ev.step (fun k => ?_) (value_go s hs cs (i + 1) hd (by omega))
      show value_Name.l0 (k + 1) s _ _ = _
      rw [value_Name.l0, if_pos (by omega), if_pos (by omega), if_pos (by omega), hb, w1]
      repeat' split
      all_goals first | rfl | (exfalso; omega)
    · have hc2 : ¬ ((97 ≤ c.toNat ∧ c.toNat ≤ 122) ∨ (48 ≤ c.toNat ∧ c.toNat ≤ 57) ∨ c.toNat = 95) := fun x => hin (hc.2 x)
      rw [List.all_cons, Bool.eq_false_iff.mpr hin, Bool.false_and]
      refine Ev.step (f := fun _ => some false) (fun k => ?_) (Ev.now _)
      show value_Name.l0 (k + 1) s _ _ = _
      rw [value_Name.l0, if_pos (by omega), if_pos (by omega), if_pos (by omega), hb, w1]
      repeat' split
      all_goals first | rfl | (exfalso; omega)
theorem value_is (s : ByteArray) : Ev (fun k => value_Name.f k s) (nameL s.data.toList) := by
  have e : s.data.toList.length = s.size := by simp
  have no : Ev (fun k => value_Name.j0 k s true) false := Ev.step (f := fun _ => some false) (fun k => by show value_Name.j0 (k + 1) s true = _; rw [value_Name.j0, if_pos rfl]) (Ev.now _)
  unfold nameL
  cases hl : s.data.toList with
  | nil =>
    rw [Bool.and_false]
    refine Ev.congr (fun k => ?_) no
    show value_Name.f k s = _
    rw [value_Name.f, ByteArray.toList_eq, hl, if_pos rfl]
  | cons c cs =>
    obtain ⟨hb, hlt, hd⟩ := bt_get (s := s) (i := 0) (c := c) (cs := cs) (by simpa using hl)
    have hne : ¬ s.toList = [] := by rw [ByteArray.toList_eq, hl]; simp
    have hb0 : bt s 0 = (c.toNat : Int) := hb
    have e2 : (c :: cs).length = s.size := by rw [← hl]; exact e
    rw [e2]
    (try dsimp only)
    by_cases h24 : s.size ≤ 24
    · rw [decide_eq_true h24, Bool.true_and]
      by_cases hlow : isLow c = true
      · have hn := (low_num c).1 hlow
        rw [hlow, Bool.true_and]
        have hin : isInn c = true := by unfold isInn; rw [hlow]; rfl
        have := value_go s h24 (c :: cs) 0 (by simpa using hl) (by omega)
        rw [List.all_cons, hin, Bool.true_and] at this
        refine Ev.congr (f := fun k => value_Name.j0 k s false) (fun k => ?_) (Ev.step (fun k => ?_) this)
        · show value_Name.f k s = _
          rw [value_Name.f, if_neg hne, if_neg (by omega), if_pos (by omega), hb0, if_neg (by omega), decide_eq_false (by omega)]
        · show value_Name.j0 (k + 1) s false = _
          rw [value_Name.j0, if_neg (by decide)]
          rfl
      · have hn : ¬ (97 ≤ c.toNat ∧ c.toNat ≤ 122) := fun x => hlow ((low_num c).2 x)
        rw [Bool.eq_false_iff.mpr hlow, Bool.false_and]
        refine Ev.congr (fun k => ?_) no
        show value_Name.f k s = _
        rw [value_Name.f, if_neg hne, if_neg (by omega), if_pos (by omega), hb0]
        by_cases h97 : (c.toNat : Int) < 97
        · rw [if_pos h97]
        · rw [if_neg h97, decide_eq_true (by omega)]
    · rw [decide_eq_false h24, Bool.false_and]
      refine Ev.congr (fun k => ?_) no
      show value_Name.f k s = _
      rw [value_Name.f, if_neg hne, if_pos (by omega)]
theorem name_go (s : ByteArray) (hs : s.size ≤ 24) : ∀ (cs : List UInt8) (i : Nat), 0 < i → s.data.toList.drop i = cs → i ≤ s.size → Ev (fun k => prompterref04_Name.l0 k s (i : Int)) (cs.all isInn)
  | [], i, h0, h, hi => by
    refine Ev.step (f := fun _ => some _) (fun k => ?_) (Ev.now _)
    show prompterref04_Name.l0 (k + 1) s _ = _
    rw [prompterref04_Name.l0, if_neg (drop_nil h)]
    rfl
  | c :: cs, i, h0, h, hi => by
    obtain ⟨hb, hlt, hd⟩ := bt_get h
    have hc := inn_num c
    have w1 : wrap64 ((i : Int) + 1) = ((i + 1 : Nat) : Int) := w64 (by omega) (by omega)
    by_cases hin : isInn c = true
    · have hc2 := hc.1 hin
      rw [List.all_cons, hin, Bool.true_and]
      refine Ev.step (fun k => ?_) (name_go s hs cs (i + 1) (by omega) hd (by omega))
      show prompterref04_Name.l0 (k + 1) s _ = _
      rw [prompterref04_Name.l0, if_pos (by omega), if_pos (by omega), hb, w1]
      clear w1 hb
      repeat' split
      all_goals first | rfl | (exfalso; omega)
    · have hc2 : ¬ ((97 ≤ c.toNat ∧ c.toNat ≤ 122) ∨ (48 ≤ c.toNat ∧ c.toNat ≤ 57) ∨ c.toNat = 95) := fun x => hin (hc.2 x)
      rw [List.all_cons, Bool.eq_false_iff.mpr hin, Bool.false_and]
      refine Ev.step (f := fun _ => some false) (fun k => ?_) (Ev.now _)
      show prompterref04_Name.l0 (k + 1) s _ = _
      rw [prompterref04_Name.l0, if_pos (by omega), if_pos (by omega), hb, w1]
      clear w1 hb
      repeat' split
      all_goals first | rfl | (exfalso; omega)
theorem name_is (s : ByteArray) : Ev (fun k => prompterref04_Name.f k s) (nameL s.data.toList) := by
  have e : s.data.toList.length = s.size := by simp
  have no : Ev (fun k => prompterref04_Name.j0 k s true) false := Ev.step (f := fun _ => some false) (fun k => by show prompterref04_Name.j0 (k + 1) s true = _; rw [prompterref04_Name.j0, if_pos rfl]) (Ev.now _)
  unfold nameL
  cases hl : s.data.toList with
  | nil =>
    rw [hl] at e
    rw [Bool.and_false]
    refine Ev.congr (fun k => ?_) no
    show prompterref04_Name.f k s = _
    rw [prompterref04_Name.f, if_pos (by simp at e; omega)]
  | cons c cs =>
    obtain ⟨hb, hlt, hd⟩ := bt_get (s := s) (i := 0) (c := c) (cs := cs) (by simpa using hl)
    have hb0 : bt s 0 = (c.toNat : Int) := hb
    have e2 : (c :: cs).length = s.size := by rw [← hl]; exact e
    rw [e2]
    (try dsimp only)
    by_cases h24 : s.size ≤ 24
    · rw [decide_eq_true h24, Bool.true_and]
      have start : ∀ r, Ev (fun k => prompterref04_Name.l0 k s 0) r → Ev (fun k => prompterref04_Name.f k s) r := by
        intro r hr
        refine Ev.congr (f := fun k => prompterref04_Name.j0 k s false) (fun k => ?_) (Ev.step (fun k => ?_) hr)
        · show prompterref04_Name.f k s = _
          rw [prompterref04_Name.f, if_neg (by omega), decide_eq_false (by omega)]
        · show prompterref04_Name.j0 (k + 1) s false = _
          rw [prompterref04_Name.j0, if_neg (by decide)]
      refine start _ ?_
      have hln := low_num c
      by_cases hlow : isLow c = true
      · have hn := hln.1 hlow
        rw [hlow, Bool.true_and]
        have := name_go s h24 cs 1 (by omega) hd (by omega)
        refine Ev.step (fun k => ?_) this
        show prompterref04_Name.l0 (k + 1) s 0 = _
        rw [prompterref04_Name.l0, if_pos (by omega), if_pos (by omega), hb0, show wrap64 ((0 : Int) + 1) = ((1 : Nat) : Int) from w64 (by decide) (by decide)]
        repeat' split
        all_goals first | rfl | (exfalso; omega)
      · have hn : ¬ (97 ≤ c.toNat ∧ c.toNat ≤ 122) := fun x => hlow (hln.2 x)
        rw [Bool.eq_false_iff.mpr hlow, Bool.false_and]
        refine Ev.step (f := fun _ => some false) (fun k => ?_) (Ev.now _)
        show prompterref04_Name.l0 (k + 1) s 0 = _
        rw [prompterref04_Name.l0, if_pos (by omega), if_pos (by omega), hb0]
        repeat' split
        all_goals first | rfl | (exfalso; omega)
    · rw [decide_eq_false h24, Bool.false_and]
      refine Ev.congr (fun k => ?_) no
      show prompterref04_Name.f k s = _
      rw [prompterref04_Name.f, if_neg (by omega), decide_eq_true (by omega)]
theorem ite_or (c : Prop) [Decidable c] (b : Bool) : (if c then some true else some b) = some (decide c || b) := by
  by_cases h : c <;> simp [h]
theorem among_l (x : ByteArray) (l : List ByteArray) (hl : l.length < 1000) : ∀ (d : Nat) (i : Nat) (k : Nat), i + d = l.length → d < k →
    prompterref07_Among.l0 k l x (i : Int) = some ((l.drop i).any fun y => decide (y.toList = x.toList)) := by
  intro d
  induction d with
  | zero =>
    intro i k hi hk
    obtain ⟨k, rfl⟩ : ∃ m, k = m + 1 := ⟨k - 1, by omega⟩
    simp only [prompterref07_Among.l0]
    rw [if_neg (by omega), List.drop_eq_nil_of_le (by omega)]
    rfl
  | succ d ih =>
    intro i k hi hk
    obtain ⟨k, rfl⟩ : ∃ m, k = m + 1 := ⟨k - 1, by omega⟩
    simp only [prompterref07_Among.l0]
    rw [if_pos (by omega), if_pos (by omega)]
    have hw : wrap64 ((i : Int) + 1) = ((i + 1 : Nat) : Int) := by unfold wrap64; omega
    have hlt : i < l.length := by omega
    have hrd : rdOf ByteArray.empty l (i : Int) = l[i] := by simp [rdOf, List.getD_eq_getElem?_getD, hlt]
    rw [hw, ih (i + 1) k (by omega) (by omega), hrd, List.drop_eq_getElem_cons hlt, List.any_cons, ite_or]
theorem keyword_any (x : ByteArray) (W : List ByteArray) (hW : prompterref07_Words.f = some W) (hW' : W.length = 28) :
    prompterref07_Keyword.f 40 x = some (W.any fun y => decide (y.toList = x.toList)) := by
  unfold prompterref07_Keyword.f
  rw [hW]
  simp only [Option.bind_some]
  have := among_l x W (by omega) 28 0 40 (by omega) (by omega)
  unfold prompterref07_Among.f
  rw [show ((0 : Nat) : Int) = 0 from rfl] at this
  rw [this]
  simp
theorem keyword_eq (x : ByteArray) : ∃ b, token_Keyword.f x = some b ∧ Ev (fun k => prompterref07_Keyword.f k x) b := by
  refine ⟨_, ?_, Ev.of (prompterref07_Keyword.mono x) (keyword_any x _ rfl rfl)⟩
  unfold token_Keyword.f
  simp only [ite_or]
  congr 1
  simp only [List.any_cons, List.any_nil]
  simp only [ByteArray.toList_eq]
  have e : ∀ l : List UInt8, decide (x.data.toList = l) = decide (l = x.data.toList) := fun l => by simp [eq_comm]
  simp only [e]
theorem own_both (x : ByteArray) : ∃ b, Ev (fun k => tree_own.f k x) b ∧ Ev (fun k => prompterref08_Own.f k x) b := by
  obtain ⟨b, h1, h2⟩ := keyword_eq x
  refine ⟨if nameL x.data.toList = true then !b else false, ?_, ?_⟩
  · refine Ev.bind (f := fun _ t => if t = true then ((token_Keyword.f x).bind fun t346 => (some (!t346))) else (some false)) (value_is x) ?_
    refine Ev.congr (f := fun _ => some _) (fun k => ?_) (Ev.now _)
    rw [h1]
    split <;> rfl
  · refine Ev.bind (f := fun k t => if t = true then ((prompterref07_Keyword.f k x).bind fun t389 => (some (!t389))) else (some false)) (name_is x) ?_
    by_cases hn : nameL x.data.toList = true
    · rw [if_pos hn]
      exact Ev.congr (fun k => if_pos hn) (Ev.bind h2 (Ev.now _))
    · rw [if_neg hn]
      exact Ev.congr (fun k => if_neg hn) (Ev.now _)
end Go.Proofs.Ytlbchdalimngjaa.Tree
namespace Go.Proofs.Ytlbchdalimngjaa.P
open Go.RowKit Go.Proofs.YtlbchdalimngjaaW.PrintWords Go.Proofs.YtlbchdalimngjaaW.PrintLast Go.Proofs.YtlbchdalimngjaaW.PrintMore
open Go.Instr
set_option linter.unusedVariables false
set_option linter.unusedSimpArgs false
def setObj_ (w : World) (b : Nat) (o : Obj) : World := { w with heap := w.heap.setIfInBounds b o }
theorem setObj_same {w : World} {b : Nat} {o o' : Obj} (h : w.heap[b]? = some o') : (setObj_ w b o).heap[b]? = some o := by
  have hlt := (Array.getElem?_eq_some_iff.1 h).1
  simp [setObj_, hlt]
theorem setObj_grown {w : World} {b : Nat} {o : Obj} : w.grownBy (setObj_ w b o) (some b) :=
  ⟨rfl, rfl, rfl, by simp [setObj_], fun i _ hi => by
    have : b ≠ i := fun e => hi (by rw [e])
    simp [setObj_, Array.getElem?_setIfInBounds, this]⟩
section
variable {P : Program} {w : World} {t k e : TypeId} {b clock : Nat} {es : Array MapEntry} {n : Int}
theorem run_checkKey_u8 (hk : P.underlying k = some (.int .u8)) (c : Bool) (m : Nat) : (checkKey c (m + 1) k (.int .u8 n)).run P w = .ok () w := by
  simp [checkKey, run_underlying hk]
theorem run_findKey_u8 (hk : P.underlying k = some (.int .u8)) {l : List MapEntry} {r : Option (Nat × Value)} (hf : findNow (.int .u8) (.int .u8 n) l 0 = some r) : (findKey k (.int .u8 n) l).run P w = .ok r w := by
  simp [findKey, run_underlying hk, hf]
theorem run_mapUpdate_new (ht : P.underlying t = some (.map k e)) (hk : P.underlying k = some (.int .u8)) (hb : w.heap[b]? = some (.map es clock)) (v : Value)
    (hf : findNow (.int .u8) (.int .u8 n) es.toList 0 = some none) :
    (mapUpdate t (.map (some b)) (.int .u8 n) v).run P w = .ok () (setObj_ w b (.map (es.push ⟨.int .u8 n, v, clock⟩) (clock + 1))) := by
  have h1 := run_checkKey_u8 (P := P) (w := w) (n := n) hk false 9999
  have h2 := run_findKey_u8 (P := P) (w := w) hk hf
  simp [mapUpdate, run_underlying ht, getObj, setObj, hb, h1, h2, setObj_, Sem.run]
theorem run_lookup_has (ht : P.underlying t = some (.map k e)) (hk : P.underlying k = some (.int .u8)) (hb : w.heap[b]? = some (.map es clock)) {i : Nat} {v : Value}
    (hf : findNow (.int .u8) (.int .u8 n) es.toList 0 = some (some (i, v))) : (lookup t (.map (some b)) (.int .u8 n) true).run P w = .ok (.tuple #[v, .bool true]) w := by
  have h1 := fun c => run_checkKey_u8 (P := P) (w := w) (n := n) hk c 9999
  have h2 := run_findKey_u8 (P := P) (w := w) hk hf
  simp [lookup, run_underlying ht, getObj, hb, h1, h2, Sem.run]
theorem run_lookup_not (ht : P.underlying t = some (.map k e)) (hk : P.underlying k = some (.int .u8)) (hb : w.heap[b]? = some (.map es clock)) {z : Value} (hz : (zeroValue e).run P w = .ok z w)
    (hf : findNow (.int .u8) (.int .u8 n) es.toList 0 = some none) : (lookup t (.map (some b)) (.int .u8 n) true).run P w = .ok (.tuple #[z, .bool false]) w := by
  have h1 := fun c => run_checkKey_u8 (P := P) (w := w) (n := n) hk c 9999
  have h2 := run_findKey_u8 (P := P) (w := w) hk hf
  simp [lookup, run_underlying ht, getObj, hb, h1, h2, hz, Sem.run]
end
section
variable {P : Program} {ops : Array Oper} {rest : List Oper} {o : Oper} {a : Act} {Q : Exit → Act → World → Prop} {w : World} {t k e : TypeId} {b clock : Nat} {es : Array MapEntry} {n : Int}
theorem map_put (hg : o.guard = none) (m x v : Operand) (hop : o.op = .mapUpdate t m x v ∨ o.op = .insert t m x v) (ht : P.underlying t = some (.map k e)) (hk : P.underlying k = some (.int .u8))
    (hm : a.eval m = .map (some b)) (hx : a.eval x = .int .u8 n) (val : Value) (hv : a.eval v = val) (hb : w.heap[b]? = some (.map es clock)) (hf : findNow (.int .u8) (.int .u8 n) es.toList 0 = some none)
    (h : ∀ w1, w1.heap[b]? = some (.map (es.push ⟨.int .u8 n, val, clock⟩) (clock + 1)) → w.grownBy w1 (some b) → wpList P ops Q rest (a.put o.dst undef) w1) : wpList P ops Q (o :: rest) a w := by
  refine wpList_plain hg fun K hK => ?_
  have hrun := run_mapUpdate_new (P := P) (w := w) ht hk hb val hf
  unfold Oper.wp
  rcases hop with hop | hop <;> simp [execOp, hop, hm, hx, hv, hrun, Result.andThen] <;> exact hK _ _ (h _ (setObj_same hb) setObj_grown)
theorem map_has (hg : o.guard = none) (m x : Operand) (hop : o.op = .lookup t m x true) (ht : P.underlying t = some (.map k e)) (hk : P.underlying k = some (.int .u8))
    (hm : a.eval m = .map (some b)) (hx : a.eval x = .int .u8 n) (hb : w.heap[b]? = some (.map es clock)) (i : Nat) (v : Value) (hf : findNow (.int .u8) (.int .u8 n) es.toList 0 = some (some (i, v)))
    (h : wpList P ops Q rest (a.put o.dst (.tuple #[v, .bool true])) w) : wpList P ops Q (o :: rest) a w := by
  refine wpList_plain hg fun K hK => ?_
  have hrun := run_lookup_has (P := P) (w := w) ht hk hb hf
  unfold Oper.wp
  simp [execOp, hop, hm, hx, hrun, Result.andThen]
  exact hK _ _ h
theorem map_not (hg : o.guard = none) (m x : Operand) (hop : o.op = .lookup t m x true) (ht : P.underlying t = some (.map k e)) (hk : P.underlying k = some (.int .u8))
    (hm : a.eval m = .map (some b)) (hx : a.eval x = .int .u8 n) (hb : w.heap[b]? = some (.map es clock)) (z : Value) (hz : (zeroValue e).run P w = .ok z w) (hf : findNow (.int .u8) (.int .u8 n) es.toList 0 = some none)
    (h : wpList P ops Q rest (a.put o.dst (.tuple #[z, .bool false])) w) : wpList P ops Q (o :: rest) a w := by
  refine wpList_plain hg fun K hK => ?_
  have hrun := run_lookup_not (P := P) (w := w) ht hk hb hz hf
  unfold Oper.wp
  simp [execOp, hop, hm, hx, hrun, Result.andThen]
  exact hK _ _ h
end
end Go.Proofs.Ytlbchdalimngjaa.P
