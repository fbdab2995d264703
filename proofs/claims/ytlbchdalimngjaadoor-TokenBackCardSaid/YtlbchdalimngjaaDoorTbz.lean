/- the statement TokenBack holds (the tied card): tokens that are spelled are read again, just they -/
import Derived.KernelRfl
import Derived.Lib.ItoaLen
import Derived.Test.YtlbchdalimngjaaDoorRows
import Derived.Deep.Slices
import Derived.Deep.Fields
import Derived.ChangeSame
import Derived.Lib.SmallJoins
import Derived.WalkKit
import Derived.ProofKit
import Derived.OpenShut
import Derived.ShutString
import Derived.ChangeOld
import Derived.Below
import Derived.SizedLaws
import Derived.Carry
import Derived.LaidMore
import Derived.Stop.LaidErr
import Derived.Stop.Joined
import Derived.MakeChecks
import Derived.SevenTiedAt
import Derived.Lib.LaidTab
import Derived.HandedShaped
import Derived.Test.YtlbchdalimngjaaDoorCards
import Derived.Test.YtlbchdalimngjaaDoorTie
import Derived.Test.YtlbchdalimngjaaDoorTbd
namespace Go.Proofs.YtlbchdalimngjaaDoor.Lex
open Go.RowKit Go.Proofs.YtlbchdalimngjaaDoorW.PrintWords Go.Proofs.YtlbchdalimngjaaDoorW.PrintLast Go.Proofs.YtlbchdalimngjaaDoor.P
set_option linter.unusedVariables false
set_option linter.unusedSimpArgs false
def isLow (c : UInt8) : Bool := decide (97 ≤ c.toNat) && decide (c.toNat ≤ 122)
def isDig (c : UInt8) : Bool := decide (48 ≤ c.toNat) && decide (c.toNat ≤ 57)
def isInn (c : UInt8) : Bool := isLow c || isDig c || decide (c.toNat = 95)
inductive Step where
  | skip (n : Nat)
  | tok (kind : Nat) (text : List UInt8) (val n : Nat)
  | bad (o e : Nat)
def digVal (ds : List UInt8) : Nat := ds.foldl (fun a d => 10 * a + (d.toNat - 48)) 0
def maxI : Nat := 9223372036854775807
def num (cs : List UInt8) : Step :=
  let ds := cs.takeWhile isDig
  if cs.head? = some 48 ∧ 1 < ds.length then .bad 1 9
  else if maxI < digVal ds then .bad 0 2
  else match (cs.drop ds.length).head? with
    | some c => if isInn c = true then .bad ds.length 9 else .tok 2 [] (digVal ds) ds.length
    | none => .tok 2 [] (digVal ds) ds.length
def hexVal (c : UInt8) : Option Nat := if isDig c = true then some (c.toNat - 48) else if 97 ≤ c.toNat ∧ c.toNat ≤ 102 then some (c.toNat - 87) else none
def chr : List UInt8 → Except (Nat × Nat) (UInt8 × Nat)
  | [] => .error (0, 4)
  | c :: cs => if c.toNat < 32 ∨ 126 < c.toNat then .error (0, 9) else if c.toNat ≠ 92 then .ok (c, 1) else
    match cs with
    | [] => .error (1, 4)
    | d :: cs => if d.toNat = 34 ∨ d.toNat = 92 then .ok (d, 2) else if d.toNat = 110 then .ok (10, 2) else if d.toNat ≠ 120 then .error (1, 9) else
      match cs with
      | [] => .error (2, 4)
      | h :: cs => match hexVal h with
        | none => .error (2, 9)
        | some a => match cs with
          | [] => .error (3, 4)
          | g :: _ => match hexVal g with
            | none => .error (3, 9)
            | some b => .ok ((16 * a + b).toUInt8, 4)
def textGo : Nat → List UInt8 → Nat → List UInt8 → Step
  | 0, _, _, _ => .bad 0 0
  | _ + 1, [], o, _ => .bad o 4
  | k + 1, c :: cs, o, out => if c.toNat = 34 then .tok 3 out 0 (o + 1) else
    match chr (c :: cs) with
    | .error (p, e) => .bad (o + p) e
    | .ok (x, n) => if out.length = 4095 then .bad 0 2 else textGo k ((c :: cs).drop n) (o + n) (out ++ [x])
def signs : List UInt8 := [40, 41, 123, 125, 91, 93, 44, 61, 60, 43, 45, 42, 47, 37, 33]
def sgn (c : UInt8) (cs : List UInt8) : Step :=
  if c.toNat = 33 ∧ cs.head? ≠ some 61 then (if cs = [] then .bad 1 4 else .bad 1 9)
  else if c ∉ signs then .bad 0 9
  else if (c.toNat = 61 ∨ c.toNat = 60 ∨ c.toNat = 33) ∧ cs.head? = some 61 then .tok 4 [c, 61] 0 2 else .tok 4 [c] 0 1
def one : List UInt8 → Step
  | [] => .skip 0
  | c :: cs =>
    if c.toNat = 32 ∨ c.toNat = 10 then .skip 1 else
    if c.toNat = 35 then .skip (1 + (cs.takeWhile fun d => decide (d.toNat ≠ 10)).length) else
    if isLow c = true then (if 24 < 1 + (cs.takeWhile isInn).length then .bad 0 2 else .tok 1 (c :: cs.takeWhile isInn) 0 (1 + (cs.takeWhile isInn).length)) else
    if isDig c = true then num (c :: cs) else
    if c.toNat = 34 then textGo ((c :: cs).length) cs 1 [] else sgn c cs
structure LTok where
  kind : Nat
  text : List UInt8
  val : Nat
  pos : Nat
def toks : Nat → List UInt8 → Nat → List LTok → Except (Nat × Nat) (List LTok)
  | 0, _, _, acc => .ok acc
  | _ + 1, [], _, acc => .ok acc
  | k + 1, c :: cs, p, acc => match one (c :: cs) with
    | .skip n => toks k ((c :: cs).drop n) (p + n) acc
    | .tok kd tx v n => toks k ((c :: cs).drop n) (p + n) (acc ++ [⟨kd, tx, v, p⟩])
    | .bad o e => .error (p + o, e)
def lexAll (cs : List UInt8) : Except (Nat × Nat) (List LTok) := if 16384 < cs.length then .error (0, 2) else toks (cs.length + 1) cs 0 []
def LTok.S (t : LTok) : S40 := ⟨t.kind, ⟨t.text.toArray⟩, t.val, t.pos⟩
def told : Except (Nat × Nat) (List LTok) → List S40 × Int × Int
  | .ok l => (l.map LTok.S, 0, 0)
  | .error (p, e) => ([], p, e)
section
variable (s : ByteArray)
theorem bt_get {s : ByteArray} {i : Nat} {c : UInt8} {cs : List UInt8} (h : s.data.toList.drop i = c :: cs) : bt s (i : Int) = (c.toNat : Int) ∧ i < s.size ∧ s.data.toList.drop (i + 1) = cs := by
  have hlt : i < s.data.toList.length := by
    rcases Nat.lt_or_ge i s.data.toList.length with h1 | h1
    · exact h1
    · rw [List.drop_eq_nil_of_le h1] at h; cases h
  rw [List.drop_eq_getElem_cons hlt] at h
  injection h with h1 h2
  have hs : i < s.size := by simpa using hlt
  refine ⟨?_, hs, h2⟩
  unfold bt
  rw [dif_pos (by simpa using hs)]
  subst h1
  rfl
theorem drop_nil {s : ByteArray} {i : Nat} (h : s.data.toList.drop i = []) : ¬ (i : Int) < (s.size : Int) := by
  have := List.drop_eq_nil_iff.1 h
  simp at this
  have e : s.data.size = s.size := rfl
  omega
end
theorem ite_Ev {α : Type} {c : Prop} [Decidable c] {f g : Nat → Option α} {r : α} (h1 : c → Ev f r) (h2 : ¬ c → Ev g r) : Ev (fun k => if c then f k else g k) r := by
  by_cases h : c
  · simpa [h] using h1 h
  · simpa [h] using h2 h
theorem letter_is (c : UInt8) : token_letter.f (c.toNat : Int) = some (isLow c) := by
  unfold token_letter.f isLow
  split
  · rw [decide_eq_true (show 97 ≤ c.toNat by omega), Bool.true_and]
    congr 1
    exact decide_eq_decide.2 (by omega)
  · rw [decide_eq_false (show ¬ 97 ≤ c.toNat by omega), Bool.false_and]
theorem digit_is (c : UInt8) : token_digit.f (c.toNat : Int) = some (isDig c) := by
  unfold token_digit.f isDig
  split
  · rw [decide_eq_true (show 48 ≤ c.toNat by omega), Bool.true_and]
    congr 1
    exact decide_eq_decide.2 (by omega)
  · rw [decide_eq_false (show ¬ 48 ≤ c.toNat by omega), Bool.false_and]
theorem inner_is (c : UInt8) : token_inner.f (c.toNat : Int) = some (isInn c) := by
  unfold token_inner.f isInn
  rw [letter_is, digit_is]
  simp only [Option.bind_some]
  cases isLow c <;> cases isDig c <;> simp
  rw [Bool.eq_iff_iff]
  simp
  omega
theorem w64b {y : Int} (h0 : 0 ≤ y) (h : y ≤ 1000000) : wrap64 y = y := by unfold wrap64; omega
theorem w64 {i : Int} (h0 : 0 ≤ i) (h : i ≤ 1000000) : wrap64 (i + 1) = i + 1 := by unfold wrap64; omega
theorem wd_is (s : ByteArray) (hs : s.size ≤ 16384) : ∀ (cs : List UInt8) (i : Nat), s.data.toList.drop i = cs → i ≤ s.size → Ev (fun k => token_All.wd k s (i : Int)) (((i + (cs.takeWhile isInn).length : Nat)) : Int)
  | [], i, h, hi => ⟨1, fun k hk => by
      obtain ⟨k, rfl⟩ : ∃ m, k = m + 1 := ⟨k - 1, by omega⟩
      show token_All.wd (k + 1) s (i : Int) = _
      rw [token_All.wd, if_neg (drop_nil h)]
      simp⟩
  | c :: cs, i, h, hi => by
    obtain ⟨hb, hlt, hd⟩ := bt_get h
    refine Ev.step (f := fun k => if isInn c = true then token_All.wd k s ((i + 1 : Nat) : Int) else some (i : Int)) (fun k => ?_) ?_
    · show token_All.wd (k + 1) s (i : Int) = _
      rw [token_All.wd, if_pos (by omega), hb, inner_is, w64 (by omega) (by omega)]
      rfl
    · refine ite_Ev (fun hc => ?_) (fun hc => ?_)
      · have := wd_is s hs cs (i + 1) hd (by omega)
        rw [List.takeWhile_cons_of_pos hc]
        simpa [Nat.add_assoc, Nat.add_comm 1] using this
      · rw [List.takeWhile_cons_of_neg hc]
        exact Ev.now _
theorem rem_is (s : ByteArray) (hs : s.size ≤ 16384) : ∀ (cs : List UInt8) (i : Nat), s.data.toList.drop i = cs → i ≤ s.size → Ev (fun k => token_All.rem k s (i : Int)) (((i + (cs.takeWhile fun d => decide (d.toNat ≠ 10)).length : Nat)) : Int)
  | [], i, h, hi => ⟨1, fun k hk => by
      obtain ⟨k, rfl⟩ : ∃ m, k = m + 1 := ⟨k - 1, by omega⟩
      show token_All.rem (k + 1) s (i : Int) = _
      rw [token_All.rem, if_neg (drop_nil h)]
      simp⟩
  | c :: cs, i, h, hi => by
    obtain ⟨hb, hlt, hd⟩ := bt_get h
    refine Ev.step (f := fun k => if c.toNat = 10 then some (i : Int) else token_All.rem k s ((i + 1 : Nat) : Int)) (fun k => ?_) ?_
    · show token_All.rem (k + 1) s (i : Int) = _
      rw [token_All.rem, if_pos (by omega), hb, w64 (by omega) (by omega)]
      by_cases e : c.toNat = 10
      · rw [if_pos (by omega), if_pos e]
      · rw [if_neg (by omega), if_neg e]; rfl
    · refine ite_Ev (fun hc => ?_) (fun hc => ?_)
      · rw [List.takeWhile_cons_of_neg (by simpa using hc)]
        exact Ev.now _
      · have := rem_is s hs cs (i + 1) hd (by omega)
        rw [List.takeWhile_cons_of_pos (by simpa using hc)]
        simpa [Nat.add_assoc, Nat.add_comm 1] using this
theorem digVal_snoc (p : List UInt8) (c : UInt8) : digVal (p ++ [c]) = 10 * digVal p + (c.toNat - 48) := by
  simp [digVal, List.foldl_append]
theorem digVal_mono (p q : List UInt8) : digVal p ≤ digVal (p ++ q) := by
  induction q generalizing p with
  | nil => simp
  | cons c q ih =>
    have h1 := ih (p ++ [c])
    rw [digVal_snoc] at h1
    simp only [List.append_assoc, List.cons_append, List.nil_append] at h1
    omega
theorem dig_bounds {c : UInt8} (h : isDig c = true) : 48 ≤ c.toNat ∧ c.toNat ≤ 57 := by
  simpa [isDig] using h
theorem u64_small {x : Int} (h0 : 0 ≤ x) (h1 : x < 18446744073709551616) : IntKind.u64.wrap x = x := by
  simp [IntKind.wrap, IntKind.bits, IntKind.signed]
  omega
def numTold (i : Int) : Step → Int × Int × Int × Int
  | .tok _ _ v n => ((v : Int), i + n, 0, 0)
  | .bad o e => (0, 0, i + o, e)
  | .skip _ => (0, 0, 0, 0)
def numOf (D rest : List UInt8) : Step :=
  if D.head? = some 48 ∧ 1 < D.length then .bad 1 9
  else if maxI < digVal D then .bad 0 2
  else match rest.head? with
    | some c => if isInn c = true then .bad D.length 9 else .tok 2 [] (digVal D) D.length
    | none => .tok 2 [] (digVal D) D.length
theorem num_go (s : ByteArray) (hs : s.size ≤ 16384) (i : Nat) : ∀ (cs p : List UInt8), s.data.toList.drop i = p ++ cs → s.data.toList.drop (i + p.length) = cs → i + p.length ≤ s.size →
    (p.length ≤ 1 ∨ p.head? ≠ some 48) → digVal p ≤ maxI →
    Ev (fun k => token_number.l0 k s (i : Int) ((digVal p : Nat) : Int) ((i + p.length : Nat) : Int)) (numTold i (numOf (p ++ cs.takeWhile isDig) (cs.drop (cs.takeWhile isDig).length)))
  | [], p, h, hd, hi, hz, hv => by
    have he := drop_nil hd
    refine Ev.step (f := fun k => token_number.j1 k s (i : Int) ((digVal p : Nat) : Int) ((i + p.length : Nat) : Int) false) (fun k => ?_) ?_
    · show token_number.l0 (k + 1) s _ _ _ = _
      rw [token_number.l0, if_neg he]
    refine ⟨1, fun k hk => ?_⟩
    obtain ⟨k, rfl⟩ : ∃ m, k = m + 1 := ⟨k - 1, by omega⟩
    show token_number.j1 (k + 1) s _ _ _ _ = _
    rw [token_number.j1, if_neg (by decide), if_neg he]
    have e1 : ¬ (p.head? = some 48 ∧ 1 < p.length) := by rintro ⟨a, b⟩; rcases hz with hz | hz <;> first | omega | exact hz a
    simp only [List.takeWhile_nil, List.append_nil, List.length_nil, List.drop_nil, numOf, if_neg e1, if_neg (Nat.not_lt.2 hv), List.head?_nil, numTold]
    have e2 : wrap64 ((digVal p : Nat) : Int) = ((digVal p : Nat) : Int) := by unfold wrap64; unfold maxI at hv; omega
    rw [e2]
    simp
  | c :: cs, p, h, hd, hi, hz, hv => by
    obtain ⟨hb, hlt, hd'⟩ := bt_get hd
    have e1 : ¬ (p.head? = some 48 ∧ 1 < p.length) := by rintro ⟨a, b⟩; rcases hz with hz | hz <;> first | omega | exact hz a
    refine Ev.step (f := fun k => token_number.j1 k s (i : Int) ((digVal p : Nat) : Int) ((i + p.length : Nat) : Int) (isDig c)) (fun k => ?_) ?_
    · show token_number.l0 (k + 1) s _ _ _ = _
      rw [token_number.l0, if_pos (by omega), if_pos (by omega), hb, digit_is]
      rfl
    cases hc : isDig c with
    | false =>
      refine ⟨1, fun k hk => ?_⟩
      obtain ⟨k, rfl⟩ : ∃ m, k = m + 1 := ⟨k - 1, by omega⟩
      show token_number.j1 (k + 1) s _ _ _ _ = _
      rw [token_number.j1, if_neg (by decide), if_pos (by omega), if_pos (by omega), hb, inner_is]
      rw [List.takeWhile_cons_of_neg (by simp [hc])]
      simp only [Option.bind_some, List.append_nil, List.length_nil, List.drop_zero, numOf, if_neg e1, if_neg (Nat.not_lt.2 hv), List.head?_cons]
      have e2 : wrap64 ((digVal p : Nat) : Int) = ((digVal p : Nat) : Int) := by unfold wrap64; unfold maxI at hv; omega
      rw [e2]
      cases isInn c <;> simp [numTold]
    | true =>
      obtain ⟨d1, d2⟩ := dig_bounds hc
      rw [List.takeWhile_cons_of_pos hc]
      have hdr : (c :: cs).drop (c :: cs.takeWhile isDig).length = cs.drop (cs.takeWhile isDig).length := by simp
      rw [hdr]
      have happ : p ++ c :: cs.takeWhile isDig = (p ++ [c]) ++ cs.takeWhile isDig := by simp
      rw [happ]
      have h0 : s.data.toList.drop i = (p ++ [c]) ++ cs := by rw [h]; simp
      have hfirst : ∀ a q, p = a :: q → bt s (i : Int) = (a.toNat : Int) ∧ i < s.size := by
        intro a q hp
        rw [hp] at h
        exact ⟨(bt_get h).1, (bt_get h).2.1⟩
      by_cases hnought : p = [48]
      · subst hnought
        obtain ⟨hb0, hi0⟩ := hfirst 48 [] rfl
        clear hv hz e1 hfirst
        refine ⟨2, fun k hk => ?_⟩
        obtain ⟨k, rfl⟩ : ∃ m, k = m + 2 := ⟨k - 2, by omega⟩
        show token_number.j1 (k + 1 + 1) s _ _ ((i + 1 : Nat) : Int) _ = _
        have hlt1 : i + 1 < s.size := hlt
        have ew : wrap64 ((i : Int) + 1) = ((i + 1 : Nat) : Int) := by rw [w64 (by omega) (by omega)]; rfl
        rw [token_number.j1, if_pos rfl, if_pos (by omega), if_pos (by omega), if_pos ew.symm, if_pos (by omega), if_pos (by omega), token_number.j2, hb0]
        simp only [show ((((48 : UInt8).toNat : Nat) : Int) == 48) = true from rfl, if_true]
        simp [numOf, numTold]
      · have hj : Ev (fun k => token_number.j2 k s (i : Int) ((digVal p : Nat) : Int) ((i + p.length : Nat) : Int) (((c.toNat : Int) - 48) % 256) false) (numTold i (numOf ((p ++ [c]) ++ cs.takeWhile isDig) (cs.drop (cs.takeWhile isDig).length))) := by
          have ed : ((c.toNat : Int) - 48) % 256 = ((c.toNat - 48 : Nat) : Int) := by omega
          rw [ed]
          have hz' : (p ++ [c]).length ≤ 1 ∨ (p ++ [c]).head? ≠ some 48 := by
            cases p with
            | nil => exact .inl (by simp)
            | cons a q =>
              refine .inr ?_
              simp only [List.cons_append, List.head?_cons]
              rcases hz with hz | hz
              · have : q = [] := by simpa using hz
                subst this
                intro e
                exact hnought (by rw [Option.some.inj e])
              · simpa using hz
          by_cases hbig : ((digVal p : Nat) : Int) > (9223372036854775807 - ((c.toNat - 48 : Nat) : Int)) / 10
          · refine ⟨1, fun k hk => ?_⟩
            obtain ⟨k, rfl⟩ : ∃ m, k = m + 1 := ⟨k - 1, by omega⟩
            show token_number.j2 (k + 1) s _ _ _ _ _ = _
            rw [token_number.j2, if_neg (by decide), if_pos hbig]
            have hm := digVal_mono (p ++ [c]) (cs.takeWhile isDig)
            rw [digVal_snoc] at hm
            have hgt : maxI < digVal ((p ++ [c]) ++ cs.takeWhile isDig) := by unfold maxI; omega
            have e3 : ¬ (((p ++ [c]) ++ cs.takeWhile isDig).head? = some 48 ∧ 1 < ((p ++ [c]) ++ cs.takeWhile isDig).length) := by
              rintro ⟨a, b⟩
              cases p with
              | nil => simp [digVal] at hbig; omega
              | cons x q =>
                rcases hz' with hz' | hz'
                · simp at hz'
                · simp at a hz'; exact hz' a
            rw [numOf, if_neg e3, if_pos hgt]
            simp [numTold]
          · have hle : digVal (p ++ [c]) ≤ maxI := by rw [digVal_snoc]; unfold maxI; omega
            refine Ev.step (f := fun k => token_number.l0 k s (i : Int) ((digVal (p ++ [c]) : Nat) : Int) ((i + (p ++ [c]).length : Nat) : Int)) (fun k => ?_) ?_
            · show token_number.j2 (k + 1) s _ _ _ _ _ = _
              rw [token_number.j2, if_neg (by decide), if_neg hbig]
              have e5 : IntKind.u64.wrap (IntKind.u64.wrap (10 * ((digVal p : Nat) : Int)) + ((c.toNat - 48 : Nat) : Int)) = ((digVal (p ++ [c]) : Nat) : Int) := by
                rw [digVal_snoc, u64_small (x := 10 * ((digVal p : Nat) : Int)) (by omega) (by omega), u64_small (by omega) (by omega)]
                omega
              have e6 : wrap64 (((i + p.length : Nat) : Int) + 1) = ((i + (p ++ [c]).length : Nat) : Int) := by simp only [List.length_append, List.length_singleton]; unfold wrap64; omega
              rw [e5, e6]
            · exact num_go s hs i cs (p ++ [c]) h0 (by rw [List.length_append, List.length_singleton, ← Nat.add_assoc]; exact hd') (by simp; omega) hz' hle
        refine Ev.step (f := fun k => token_number.j2 k s (i : Int) ((digVal p : Nat) : Int) ((i + p.length : Nat) : Int) (((c.toNat : Int) - 48) % 256) false) (fun k => ?_) hj
        show token_number.j1 (k + 1) s _ _ _ _ = _
        rw [token_number.j1, if_pos rfl, if_pos (by omega), if_pos (by omega), hb]
        by_cases hone : p.length = 1
        · have ew : ((i + p.length : Nat) : Int) = wrap64 ((i : Int) + 1) := by rw [hone]; unfold wrap64; omega
          match p, hone with
          | [a], _ =>
            obtain ⟨hb0, hi0⟩ := hfirst a [] rfl
            rw [if_pos ew, if_pos (by omega), if_pos (by omega), hb0]
            have : ((a.toNat : Int) == 48) = false := by
              simp only [beq_eq_false_iff_ne]
              intro e
              exact hnought (by rw [show a = 48 from UInt8.toNat_inj.mp (by show a.toNat = 48; omega)])
            rw [this]
        · rw [if_neg (by unfold wrap64; omega)]
theorem number_is (s : ByteArray) (hs : s.size ≤ 16384) (i : Nat) (cs : List UInt8) (h : s.data.toList.drop i = cs) (hi : i ≤ s.size) : Ev (fun k => token_number.f k s (i : Int)) (numTold i (num cs)) := by
  have := num_go s hs i cs [] (by simpa using h) (by simpa using h) (by simpa using hi) (.inl (by simp)) (by simp [digVal])
  have e : numOf ([] ++ cs.takeWhile isDig) (cs.drop (cs.takeWhile isDig).length) = num cs := by
    unfold numOf num
    have e2 : (cs.takeWhile isDig).head? = some 48 ↔ cs.head? = some 48 := by
      cases cs with
      | nil => simp
      | cons a l =>
        simp only [List.takeWhile_cons, List.head?_cons]
        constructor
        · split <;> simp
        · intro ha
          obtain rfl := Option.some.inj ha
          rw [if_pos (by decide)]; rfl
    simp only [List.nil_append, e2]
  rw [e] at this
  simpa [token_number.f, digVal] using this
def bytesInt (l : List UInt8) : List Int := l.map fun c => (c.toNat : Int)
theorem strOf_bytes (l : List UInt8) : strOfNums (bytesInt l) = ⟨l.toArray⟩ := by
  have : ((bytesInt l).map fun n => UInt8.ofNat n.toNat) = l := by
    unfold bytesInt
    rw [List.map_map]
    have : (fun n : Int => UInt8.ofNat n.toNat) ∘ (fun c : UInt8 => (c.toNat : Int)) = id := by
      funext c
      simp
    rw [this, List.map_id]
  unfold strOfNums
  rw [this]
theorem hex_is (c : UInt8) : strings_IndexByte.f (⟨#[48, 49, 50, 51, 52, 53, 54, 55, 56, 57, 97, 98, 99, 100, 101, 102]⟩ : ByteArray) (c.toNat : Int) = some (match hexVal c with | some v => (v : Int) | none => -1) := by
  unfold strings_IndexByte.f
  congr 1
  have e : ((c.toNat : Int)).toNat.toUInt8 = c := by simp
  rw [e]
  have key : ∀ n : Nat, n < 256 → Lib.indexByte (⟨#[48, 49, 50, 51, 52, 53, 54, 55, 56, 57, 97, 98, 99, 100, 101, 102]⟩ : ByteArray).data.toList (UInt8.ofNat n) = (match hexVal (UInt8.ofNat n) with | some v => (v : Int) | none => -1) := by decide +kernel
  have := key c.toNat c.toNat_lt
  rwa [show UInt8.ofNat c.toNat = c by simp] at this
theorem hexVal_lt {c : UInt8} {v : Nat} (h : hexVal c = some v) : v < 16 := by
  unfold hexVal isDig at h
  split at h
  · rename_i h1; simp at h1; obtain rfl := Option.some.inj h; omega
  split at h
  · obtain rfl := Option.some.inj h; omega
  · cases h
def textTold (i : Int) : Step → ByteArray × Int × Int × Int
  | .tok _ t _ n => (⟨t.toArray⟩, i + n, 0, 0)
  | .bad o e => (⟨#[]⟩, 0, i + o, e)
  | .skip _ => (⟨#[]⟩, 0, 0, 0)
theorem size_of_nil {s : ByteArray} {i : Nat} (h : s.data.toList.drop i = []) (hi : i ≤ s.size) : i = s.size := by
  have := drop_nil h
  omega
theorem text_hex (s : ByteArray) (hs : s.size ≤ 16384) (i o : Nat) (out : List UInt8) (j : Nat) (e : List UInt8) (x : Nat) (m : Int) (he : s.data.toList.drop (i + o + j + 1) = e) (hj : i + o + j < s.size) (hx16 : x < 16) (hm0 : 0 ≤ m) (hm2 : m < 2) (r : ByteArray × Int × Int × Int)
    (r1 : e = [] → r = (⟨#[]⟩, 0, ((i + o + j + 1 : Nat) : Int), 4))
    (r2 : ∀ g l, e = g :: l → hexVal g = none → r = (⟨#[]⟩, 0, ((i + o + j + 1 : Nat) : Int), 9))
    (r3 : ∀ g l v, e = g :: l → hexVal g = some v → Ev (fun k => token_text.l1 k s (i : Int) (bytesInt out) ((i + o + j + 1 : Nat) : Int) ((16 * x + v : Nat) : Int) (m + 1)) r) :
    Ev (fun k => token_text.l1 k s (i : Int) (bytesInt out) ((i + o + j : Nat) : Int) (x : Int) m) r := by
  have ew2 : wrap64 (((i + o + j : Nat) : Int) + 1) = ((i + o + j + 1 : Nat) : Int) := by rw [w64 (by omega) (by omega)]; rfl
  cases e with
  | nil =>
    have hz := size_of_nil he (by omega)
    refine ⟨1, fun k hk => ?_⟩
    obtain ⟨k, rfl⟩ : ∃ m, k = m + 1 := ⟨k - 1, by omega⟩
    show token_text.l1 (k + 1) s _ _ _ _ _ = _
    rw [token_text.l1, if_pos (by omega), ew2, if_pos (by omega), r1 rfl]
  | cons g l =>
    obtain ⟨hb3, hlt3, hd3⟩ := bt_get he
    cases hv : hexVal g with
    | none =>
      refine ⟨1, fun k hk => ?_⟩
      obtain ⟨k, rfl⟩ : ∃ m, k = m + 1 := ⟨k - 1, by omega⟩
      show token_text.l1 (k + 1) s _ _ _ _ _ = _
      rw [token_text.l1, if_pos (by omega), ew2, if_neg (by omega), if_pos (by omega), if_pos (by omega), hb3, hex_is, hv, r2 g l rfl hv]
      rfl
    | some v =>
      have hv16 := hexVal_lt hv
      refine Ev.step (fun k => ?_) (r3 g l v rfl hv)
      show token_text.l1 (k + 1) s _ _ _ _ _ = _
      rw [token_text.l1, if_pos (by omega), ew2, if_neg (by omega), if_pos (by omega), if_pos (by omega), hb3, hex_is, hv]
      simp only [Option.bind_some]
      rw [if_neg (by omega)]
      have e7 : wrap64 (wrap64 (16 * (x : Int)) + (v : Int)) = ((16 * x + v : Nat) : Int) := by
        rw [w64b (y := 16 * (x : Int)) (by omega) (by omega), w64b (by omega) (by omega)]
        omega
      have e8 : wrap64 (m + 1) = m + 1 := w64 hm0 (by omega)
      rw [e7, e8]
set_option maxHeartbeats 1000000 in
theorem text_go (s : ByteArray) (hs : s.size ≤ 16384) (i : Nat) : ∀ (n : Nat) (cs out : List UInt8) (o : Nat), cs.length < n → s.data.toList.drop (i + o) = cs → i + o ≤ s.size → out.length ≤ 4095 →
    Ev (fun k => token_text.l0 k s (i : Int) (bytesInt out) ((i + o : Nat) : Int)) (textTold i (textGo n cs o out))
  | 0, _, _, _, h, _, _, _ => absurd h (Nat.not_lt_zero _)
  | n + 1, [], out, o, hn, h, hi, ho => by
    have he := drop_nil h
    have hz := size_of_nil h hi
    refine ⟨2, fun k hk => ?_⟩
    obtain ⟨k, rfl⟩ : ∃ m, k = m + 2 := ⟨k - 2, by omega⟩
    show token_text.l0 (k + 1 + 1) s _ _ _ = _
    rw [token_text.l0, if_neg he, token_text.j1, if_neg (by decide), if_pos (by omega)]
    simp only [textGo, textTold]
    rw [show (s.size : Int) = (i : Int) + (o : Int) by omega]
    rfl
  | n + 1, c :: cs, out, o, hn, h, hi, ho => by
    obtain ⟨hb, hlt, hd⟩ := bt_get h
    have hlen : (bytesInt out).length = out.length := by simp [bytesInt]
    have hsnoc : ∀ x : UInt8, bytesInt out ++ [(x.toNat : Int)] = bytesInt (out ++ [x]) := fun x => by simp [bytesInt]
    by_cases hq : c.toNat = 34
    · refine ⟨2, fun k hk => ?_⟩
      obtain ⟨k, rfl⟩ : ∃ m, k = m + 2 := ⟨k - 2, by omega⟩
      show token_text.l0 (k + 1 + 1) s _ _ _ = _
      have e1 : (((c.toNat : Nat) : Int) != 34) = false := by simp; omega
      rw [token_text.l0, if_pos (by omega), if_pos (by omega), hb, e1, token_text.j1, if_neg (by decide), if_neg (by omega), w64 (by omega) (by omega), strOf_bytes]
      simp only [textGo, hq, if_true, textTold]
      rw [show ((i + o : Nat) : Int) + 1 = (i : Int) + ((o + 1 : Nat) : Int) by omega]
    · have e1 : (((c.toNat : Nat) : Int) != 34) = true := by simp; omega
      have push : ∀ (x : UInt8) (m : Nat) (at_ : Int), 1 ≤ m → i + o + m ≤ s.size → at_ = ((i + o + m : Nat) : Int) → m ≤ (c :: cs).length →
          Ev (fun k => if ((bytesInt out).length : Int) = 4095 then some ((⟨#[]⟩ : ByteArray), (0 : Int), (i : Int), (2 : Int)) else (if (bytesInt out).length < 140737488355328 then token_text.l0 k s (i : Int) (bytesInt out ++ [(x.toNat : Int)]) at_ else none))
            (textTold i (if out.length = 4095 then .bad 0 2 else textGo n ((c :: cs).drop m) (o + m) (out ++ [x]))) := by
        intro x m at_ hm hle hat hml
        rw [hlen]
        by_cases hfull : out.length = 4095
        · rw [if_pos hfull]
          refine ⟨0, fun k _ => ?_⟩
          dsimp only
          rw [if_pos (by omega)]
          simp [textTold]
        · rw [if_neg hfull]
          refine Ev.congr (f := fun k => token_text.l0 k s (i : Int) (bytesInt (out ++ [x])) ((i + (o + m) : Nat) : Int)) (fun k => ?_) ?_
          · rw [if_neg (by omega), if_pos (by omega), hsnoc, hat, Nat.add_assoc]
          · refine text_go s hs i n _ _ _ (by simp at hn ⊢; omega) ?_ (by omega) (by simp; omega)
            rw [← Nat.add_assoc, ← List.drop_drop, h]
      refine Ev.step (f := fun k => token_text.j1 k s (i : Int) (bytesInt out) ((i + o : Nat) : Int) true) (fun k => ?_) ?_
      · show token_text.l0 (k + 1) s _ _ _ = _
        rw [token_text.l0, if_pos (by omega), if_pos (by omega), hb, e1]
      refine Ev.step (f := fun k => token_text.j2 k s (i : Int) (bytesInt out) ((i + o : Nat) : Int) ((c.toNat : Nat) : Int) (decide (c.toNat < 32 ∨ 126 < c.toNat))) (fun k => ?_) ?_
      · show token_text.j1 (k + 1) s _ _ _ _ = _
        rw [token_text.j1, if_pos rfl, if_pos (by omega), if_pos (by omega), hb]
        by_cases h32 : c.toNat < 32
        · rw [if_pos (by omega), decide_eq_true (Or.inl h32)]
        · rw [if_neg (by omega)]
          congr 1
          exact decide_eq_decide.2 (by omega)
      rw [textGo, if_neg hq]
      by_cases hbad : c.toNat < 32 ∨ 126 < c.toNat
      · refine ⟨1, fun k hk => ?_⟩
        obtain ⟨k, rfl⟩ : ∃ m, k = m + 1 := ⟨k - 1, by omega⟩
        show token_text.j2 (k + 1) s _ _ _ _ _ = _
        rw [token_text.j2, decide_eq_true hbad, if_pos rfl]
        simp only [chr, if_pos hbad, textTold]
        simp
      rw [decide_eq_false hbad]
      by_cases hesc : c.toNat = 92
      · have ew : wrap64 (((i + o : Nat) : Int) + 1) = ((i + o + 1 : Nat) : Int) := by rw [w64 (by omega) (by omega)]; rfl
        match cs, hd with
        | [], hd =>
          have hz := size_of_nil hd (by omega)
          refine ⟨1, fun k hk => ?_⟩
          obtain ⟨k, rfl⟩ : ∃ m, k = m + 1 := ⟨k - 1, by omega⟩
          show token_text.j2 (k + 1) s _ _ _ _ _ = _
          rw [token_text.j2, if_neg (by decide), if_pos (by omega), ew, if_pos (by omega), if_pos (by omega)]
          simp only [chr, if_neg hbad, hesc, ne_eq, not_true, if_false, textTold]
          rw [show (s.size : Int) = (i : Int) + ((o + 1 : Nat) : Int) by omega]
          rfl
        | d :: cs, hd =>
          obtain ⟨hb2, hlt2, hd2⟩ := bt_get hd
          refine Ev.step (f := fun k => token_text.j3 k s (i : Int) (bytesInt out) ((i + o + 1 : Nat) : Int) ((d.toNat : Nat) : Int) (decide (d.toNat = 34 ∨ d.toNat = 92))) (fun k => ?_) ?_
          · show token_text.j2 (k + 1) s _ _ _ _ _ = _
            rw [token_text.j2, if_neg (by decide), if_pos (by omega), ew, if_neg (by omega), if_pos (by omega), if_pos (by omega), hb2]
            by_cases h34 : d.toNat = 34
            · rw [if_pos (by omega), decide_eq_true (Or.inl h34)]
              congr 1
              simp; omega
            · rw [if_neg (by omega)]
              congr 1
              rw [Bool.eq_iff_iff]
              simp; omega
          by_cases hdq : d.toNat = 34 ∨ d.toNat = 92
          · rw [decide_eq_true hdq]
            have := push d 2 ((i + o + 2 : Nat) : Int) (by omega) (by omega) rfl (by simp)
            simp only [chr, if_neg hbad, hesc, ne_eq, not_true, if_false, if_pos hdq]
            refine Ev.step (fun k => ?_) this
            show token_text.j3 (k + 1) s _ _ _ _ _ = _
            rw [token_text.j3, if_pos rfl, if_pos (by omega), if_pos (by omega), hb2, w64 (by omega) (by omega)]
            rfl
          rw [decide_eq_false hdq]
          by_cases hn10 : d.toNat = 110
          · have := push 10 2 ((i + o + 2 : Nat) : Int) (by omega) (by omega) rfl (by simp)
            simp only [chr, if_neg hbad, hesc, ne_eq, not_true, if_false, if_neg hdq, if_pos hn10]
            refine Ev.step (fun k => ?_) this
            show token_text.j3 (k + 1) s _ _ _ _ _ = _
            rw [token_text.j3, if_neg (by decide), if_pos (by omega), w64 (by omega) (by omega)]
            rfl
          by_cases hx : d.toNat = 120
          ·
            have start : ∀ r, Ev (fun k => token_text.l1 k s (i : Int) (bytesInt out) ((i + o + 1 : Nat) : Int) ((0 : Nat) : Int) 0) r →
                Ev (fun k => token_text.j3 k s (i : Int) (bytesInt out) ((i + o + 1 : Nat) : Int) ((d.toNat : Nat) : Int) false) r := by
              intro r hr
              refine Ev.step (fun k => ?_) hr
              show token_text.j3 (k + 1) s _ _ _ _ _ = _
              rw [token_text.j3, if_neg (by decide), if_neg (by omega), if_pos (by omega)]
              rfl
            refine start _ ?_
            simp only [chr, if_neg hbad, hesc, ne_eq, not_true, if_false, if_neg hdq, if_neg hn10, hx]
            refine text_hex s hs i o out 1 cs 0 0 hd2 hlt2 (by omega) (by omega) (by omega) _ ?_ ?_ ?_
            · rintro rfl
              simp [textTold]
              omega
            · rintro g l rfl hv
              simp only [hv]
              simp [textTold]
              omega
            · rintro g l a rfl hv
              obtain ⟨hb4, hlt4, hd4⟩ := bt_get hd2
              have ha := hexVal_lt hv
              simp only [hv]
              rw [show 16 * 0 + a = a by omega]
              refine text_hex s hs i o out 2 l a 1 hd4 hlt4 ha (by omega) (by omega) _ ?_ ?_ ?_
              · rintro rfl
                simp [textTold]
                omega
              · rintro g2 l2 rfl hv2
                simp only [hv2]
                simp [textTold]
                omega
              · rintro g2 l2 b rfl hv2
                obtain ⟨hb5, hlt5, hd5⟩ := bt_get hd4
                have hbb := hexVal_lt hv2
                simp only [hv2]
                have := push (16 * a + b).toUInt8 4 ((i + o + 4 : Nat) : Int) (by omega) (by omega) rfl (by simp)
                refine Ev.step (fun k => ?_) this
                show token_text.l1 (k + 1) s _ _ _ _ _ = _
                have e9 : (((16 * a + b).toUInt8.toNat : Nat) : Int) = ((16 * a + b : Nat) : Int) % 256 := by simp
                rw [token_text.l1, if_neg (by omega), e9, w64 (by omega) (by omega)]
                rfl
          · refine ⟨1, fun k hk => ?_⟩
            obtain ⟨k, rfl⟩ : ∃ m, k = m + 1 := ⟨k - 1, by omega⟩
            show token_text.j3 (k + 1) s _ _ _ _ _ = _
            rw [token_text.j3, if_neg (by decide), if_neg (by omega), if_neg (by omega)]
            simp only [chr, if_neg hbad, hesc, ne_eq, not_true, if_false, if_neg hdq, if_neg hn10, hx, not_false_eq_true, if_true, textTold]
            rw [show ((i + o + 1 : Nat) : Int) = (i : Int) + ((o + 1 : Nat) : Int) by omega]
            rfl
      · have := push c 1 ((i + o + 1 : Nat) : Int) (by omega) (by omega) rfl (by simp)
        simp only [chr, if_neg hbad, hesc, ne_eq, not_false_eq_true, if_true]
        refine Ev.step (fun k => ?_) this
        show token_text.j2 (k + 1) s _ _ _ _ _ = _
        rw [token_text.j2, if_neg (by decide), if_neg (by omega), w64 (by omega) (by omega)]
        rfl
end Go.Proofs.YtlbchdalimngjaaDoor.Lex
namespace Go.Proofs.YtlbchdalimngjaaDoor.Lex
open Go.RowKit Go.Proofs.YtlbchdalimngjaaDoorW.PrintWords Go.Proofs.YtlbchdalimngjaaDoorW.PrintLast Go.Proofs.YtlbchdalimngjaaDoor.P
set_option linter.unusedVariables false
set_option linter.unusedSimpArgs false
theorem ext_is {s : ByteArray} {i : Nat} {l : List UInt8} (h : s.data.toList.drop i = l) (n : Nat) : s.extract i (i + n) = ⟨(l.take n).toArray⟩ := by
  apply ByteArray.ext
  rw [ByteArray.data_extract]
  apply Array.toList_inj.mp
  rw [Array.toList_extract, List.extract_eq_take_drop, h]
  simp
theorem takeWhile_take (p : UInt8 → Bool) (l : List UInt8) : l.take (l.takeWhile p).length = l.takeWhile p := (List.prefix_iff_eq_take.1 (List.takeWhile_prefix p)).symm
theorem takeWhile_le (p : UInt8 → Bool) (l : List UInt8) : (l.takeWhile p).length ≤ l.length := (List.takeWhile_prefix p).length_le
def stepTold (i : Int) : Step → Step07
  | .skip n => .skip (i + n)
  | .tok kd tx v n => .tok ⟨kd, ⟨tx.toArray⟩, v, i⟩ (i + n)
  | .bad o e => .bad (i + o) e
theorem text_is (s : ByteArray) (hs : s.size ≤ 16384) (i : Nat) (c : UInt8) (cs : List UInt8) (h : s.data.toList.drop i = c :: cs) : Ev (fun k => token_text.f k s (i : Int)) (textTold i (textGo (cs.length + 1) cs 1 [])) := by
  obtain ⟨hb, hlt, hd⟩ := bt_get h
  have := text_go s hs i (cs.length + 1) cs [] 1 (by omega) hd (by omega) (by simp)
  refine Ev.congr (fun k => ?_) this
  show token_text.f k s (i : Int) = _
  rw [token_text.f, w64 (by omega) (by omega)]
  rfl
theorem index_signs (c : UInt8) : ∃ t, strings_IndexByte.f (⟨#[40, 41, 123, 125, 91, 93, 44, 61, 60, 43, 45, 42, 47, 37, 33]⟩ : ByteArray) (c.toNat : Int) = some t ∧ (t < 0 ↔ c ∉ signs) := by
  refine ⟨_, rfl, ?_⟩
  have e : ((c.toNat : Int)).toNat.toUInt8 = c := by simp
  rw [e]
  have key : ∀ n : Nat, n < 256 → (Lib.indexByte (⟨#[40, 41, 123, 125, 91, 93, 44, 61, 60, 43, 45, 42, 47, 37, 33]⟩ : ByteArray).data.toList (UInt8.ofNat n) < 0 ↔ UInt8.ofNat n ∉ signs) := by decide +kernel
  have := key c.toNat c.toNat_lt
  rwa [show UInt8.ofNat c.toNat = c by simp] at this
theorem index_two (c : UInt8) : ∃ t, strings_IndexByte.f (⟨#[61, 60, 33]⟩ : ByteArray) (c.toNat : Int) = some t ∧ (0 ≤ t ↔ (c.toNat = 61 ∨ c.toNat = 60 ∨ c.toNat = 33)) := by
  refine ⟨_, rfl, ?_⟩
  have e : ((c.toNat : Int)).toNat.toUInt8 = c := by simp
  rw [e]
  have key : ∀ n : Nat, n < 256 → (0 ≤ Lib.indexByte (⟨#[61, 60, 33]⟩ : ByteArray).data.toList (UInt8.ofNat n) ↔ ((UInt8.ofNat n).toNat = 61 ∨ (UInt8.ofNat n).toNat = 60 ∨ (UInt8.ofNat n).toNat = 33)) := by decide +kernel
  have := key c.toNat c.toNat_lt
  rwa [show UInt8.ofNat c.toNat = c by simp] at this
theorem toN (i : Nat) : ((i : Int)).toNat = i := rfl
theorem u8_eq {c : UInt8} {n : Nat} (hn : n < 256) (h : c.toNat = n) : c = UInt8.ofNat n := by rw [← h]; simp
theorem sg_is (s : ByteArray) (hs : s.size ≤ 16384) (i : Nat) (c : UInt8) (cs : List UInt8) (h : s.data.toList.drop i = c :: cs) (hne : ¬ (c.toNat = 33 ∧ cs.head? ≠ some 61)) :
    token_All.sg s (i : Int) (c.toNat : Int) ((i + 1 : Nat) : Int) = some (stepTold i (sgn c cs)) := by
  obtain ⟨hb, hlt, hd⟩ := bt_get h
  obtain ⟨t, ht, ht2⟩ := index_signs c
  obtain ⟨u, hu, hu2⟩ := index_two c
  unfold token_All.sg sgn
  rw [ht, if_neg hne]
  simp only [Option.bind_some]
  by_cases h1 : c ∉ signs
  · rw [if_pos (ht2.2 h1), if_pos h1]
    simp [stepTold]
  rw [if_neg (fun x => h1 (ht2.1 x)), if_neg h1, hu]
  simp only [Option.bind_some]
  have x1 : s.extract i (i + 1) = ⟨[c].toArray⟩ := by rw [ext_is h 1]; rfl
  have e1 : ((i + 1 : Nat) : Int).toNat = i + 1 := rfl
  rw [toN, e1, x1]
  by_cases h2 : c.toNat = 61 ∨ c.toNat = 60 ∨ c.toNat = 33
  · rw [if_pos (hu2.2 h2)]
    cases cs with
    | nil =>
      have := drop_nil hd
      rw [if_neg this, if_neg (by simp)]
      simp [stepTold]
    | cons d cs =>
      obtain ⟨hb2, hlt2, hd2⟩ := bt_get hd
      have x2 : s.extract i (i + 2) = ⟨[c, d].toArray⟩ := by rw [ext_is h 2]; rfl
      have ew : wrap64 (((i + 1 : Nat) : Int) + 1) = ((i + 2 : Nat) : Int) := by rw [w64 (by omega) (by omega)]; rfl
      have e2 : ((i + 2 : Nat) : Int).toNat = i + 2 := rfl
      rw [if_pos (by omega), hb2, ew, e2, x2]
      by_cases h3 : d.toNat = 61
      · have hd' : d = 61 := u8_eq (by decide) h3
        subst hd'
        rw [if_pos (by rfl), if_pos ⟨h2, by simp⟩]
        simp [stepTold]
      · have hd' : d ≠ 61 := fun e => h3 (by rw [e]; rfl)
        rw [if_neg (by omega), if_neg (by rintro ⟨_, b⟩; simp at b; exact hd' b)]
        simp [stepTold]
  · rw [if_neg (fun x => h2 (hu2.1 x)), if_neg (fun x => h2 x.1)]
    simp [stepTold]
theorem Ev.bindc {α β : Type} {f : Nat → Option α} {g : Nat → α → Option β} {a : α} {r : β} (h1 : Ev f a) (h2 : Ev (fun k => g k a) r) : Ev (fun k => (f k).bind (g k)) r := by
  obtain ⟨n, hn⟩ := h1
  obtain ⟨m, hm⟩ := h2
  refine ⟨max n m, fun k hk => ?_⟩
  show (f k).bind (g k) = some r
  rw [hn k (by omega)]
  exact hm k (by omega)
theorem text_ne {n : Nat} {cs : List UInt8} {o : Nat} {out : List UInt8} : ∀ {x}, textGo n cs o out ≠ .skip x := by
  induction n generalizing cs o out with
  | zero => intro x; simp [textGo]
  | succ n ih =>
    intro x
    cases cs with
    | nil => simp [textGo]
    | cons c cs =>
      rw [textGo]
      split
      · simp
      · split
        · simp
        · split
          · simp
          · exact ih
theorem text_kind {n : Nat} {cs : List UInt8} {o : Nat} {out : List UInt8} : ∀ {kd t v m}, textGo n cs o out = .tok kd t v m → kd = 3 ∧ v = 0 := by
  induction n generalizing cs o out with
  | zero => intro kd t v m h; simp [textGo] at h
  | succ n ih =>
    intro kd t v m h
    cases cs with
    | nil => simp [textGo] at h
    | cons c cs =>
      rw [textGo] at h
      split at h
      · simp at h; exact ⟨h.1.symm, h.2.2.1.symm⟩
      · split at h
        · simp at h
        · split at h
          · simp at h
          · exact ih h
theorem chr_ok {l : List UInt8} {x : UInt8} {m : Nat} (h : chr l = .ok (x, m)) : 1 ≤ m ∧ m ≤ l.length := by
  unfold chr at h
  repeat' split at h
  all_goals first | cases h; done | (simp at h; (obtain ⟨_, rfl⟩ := h); simp)
theorem chr_bad {l : List UInt8} {p e : Nat} (h : chr l = .error (p, e)) : e ≠ 0 ∧ p ≤ l.length := by
  unfold chr at h
  repeat' split at h
  all_goals first | cases h; done | (simp at h; (obtain ⟨rfl, rfl⟩ := h); simp)
theorem text_bad {n : Nat} {cs : List UInt8} {o : Nat} {out : List UInt8} (hn : cs.length < n) : ∀ {p e}, textGo n cs o out = .bad p e → e ≠ 0 := by
  induction n generalizing cs o out with
  | zero => exact absurd hn (Nat.not_lt_zero _)
  | succ n ih =>
    intro p e h
    cases cs with
    | nil => simp [textGo] at h; omega
    | cons c cs =>
      rw [textGo] at h
      by_cases hq : c.toNat = 34
      · rw [if_pos hq] at h; cases h
      rw [if_neg hq] at h
      generalize hc : chr (c :: cs) = q at h
      cases q with
      | error q => cases h; exact (chr_bad hc).1
      | ok q =>
        obtain ⟨x, m⟩ := q
        dsimp only at h
        obtain ⟨h1, h2⟩ := chr_ok hc
        split at h
        · cases h; decide
        · refine ih ?_ h
          simp at hn ⊢
          omega
theorem text_len {n : Nat} {cs : List UInt8} {o : Nat} {out : List UInt8} : ∀ {kd t v m}, textGo n cs o out = .tok kd t v m → o < m ∧ m ≤ o + cs.length := by
  induction n generalizing cs o out with
  | zero => intro kd t v m h; simp [textGo] at h
  | succ n ih =>
    intro kd t v m h
    cases cs with
    | nil => simp [textGo] at h
    | cons c cs =>
      rw [textGo] at h
      by_cases hq : c.toNat = 34
      · rw [if_pos hq] at h; cases h; simp
      rw [if_neg hq] at h
      generalize hc : chr (c :: cs) = q at h
      cases q with
      | error q => cases h
      | ok q =>
        obtain ⟨x, y⟩ := q
        dsimp only at h
        obtain ⟨h1, h2⟩ := chr_ok hc
        split at h
        · cases h
        · obtain ⟨a, b⟩ := ih h
          simp at a b h2 ⊢
          omega
theorem num_kind {cs : List UInt8} {x : Nat} : num cs ≠ .skip x := by
  unfold num
  dsimp only
  repeat' split
  all_goals simp
theorem num_tok {cs : List UInt8} {kd v m : Nat} {t : List UInt8} (h : num cs = .tok kd t v m) : kd = 2 ∧ t = [] ∧ m = (cs.takeWhile isDig).length := by
  unfold num at h
  dsimp only at h
  repeat' split at h
  all_goals first | cases h; done | (cases h; exact ⟨rfl, rfl, rfl⟩)
theorem num_bad {cs : List UInt8} {p e : Nat} (h : num cs = .bad p e) : e ≠ 0 := by
  unfold num at h
  dsimp only at h
  repeat' split at h
  all_goals first | cases h; done | (cases h; decide)
theorem one_is (s : ByteArray) (hs : s.size ≤ 16384) (i : Nat) (c : UInt8) (cs : List UInt8) (h : s.data.toList.drop i = c :: cs) :
    Ev (fun k => token_All.one k s (i : Int) (c.toNat : Int) ((i + 1 : Nat) : Int)) (stepTold i (one (c :: cs))) := by
  obtain ⟨hb, hlt, hd⟩ := bt_get h
  have ew : wrap64 ((i : Int) + 1) = ((i + 1 : Nat) : Int) := w64 (by omega) (by omega)
  rw [one]
  by_cases h1 : c.toNat = 32 ∨ c.toNat = 10
  · rw [if_pos h1]
    refine Ev.congr (fun k => ?_) (Ev.now _)
    show token_All.one k s _ _ _ = _
    unfold token_All.one
    rw [ew]
    by_cases h2 : (c.toNat : Int) = 32
    · rw [if_pos h2]; rfl
    · rw [if_neg h2, if_pos (by omega)]; rfl
  rw [if_neg h1]
  by_cases h2 : c.toNat = 35
  · rw [if_pos h2]
    have := rem_is s hs (c :: cs) i h (by omega)
    rw [List.takeWhile_cons_of_pos (by simp [h2])] at this
    refine Ev.congr (f := fun k => (token_All.rem k s (i : Int)).bind fun j => some (.skip j)) (fun k => ?_) (Ev.bindc this (Ev.congr (fun k => ?_) (Ev.now _)))
    · show token_All.one k s _ _ _ = _
      unfold token_All.one
      rw [if_neg (by omega), if_neg (by omega), if_pos (by omega)]
    · simp only [stepTold, List.length_cons]
      congr 2
      omega
  rw [if_neg h2]
  by_cases h3 : isLow c = true
  · rw [if_pos h3]
    have := wd_is s hs cs (i + 1) hd (by omega)
    have hle := takeWhile_le isInn cs
    have hcl : cs.length + (i + 1) = s.size := by
      have := congrArg List.length hd
      simp at this
      have e : s.data.size = s.size := rfl
      omega
    refine Ev.congr (fun k => ?_) (Ev.bindc (g := fun k j => if wrap64 (j - (i : Int)) > 24 then some (Step07.bad i 2) else if j ≤ (s.size : Int) then (if (i : Int) ≤ j then some (.tok ⟨1, s.extract i j.toNat, 0, i⟩ j) else none) else none) this (Ev.congr (fun k => ?_) (Ev.now _)))
    · show token_All.one k s _ _ _ = _
      unfold token_All.one
      rw [if_neg (by omega), if_neg (by omega), if_neg (by omega), letter_is, h3]
      simp only [Option.bind_some, if_true]
      rfl
    · have e1 : wrap64 (((i + 1 + (cs.takeWhile isInn).length : Nat) : Int) - (i : Int)) = ((1 + (cs.takeWhile isInn).length : Nat) : Int) := by
        rw [w64b (by omega) (by omega)]; omega
      have e2 : ((i + 1 + (cs.takeWhile isInn).length : Nat) : Int).toNat = i + (1 + (cs.takeWhile isInn).length) := by omega
      rw [e1, e2, ext_is h, Nat.add_comm 1, List.take_succ_cons, takeWhile_take]
      by_cases h4 : 24 < (cs.takeWhile isInn).length + 1
      · rw [if_pos (by omega), if_pos h4]; simp [stepTold]
      · rw [if_neg (by omega), if_neg h4, if_pos (by omega), if_pos (by omega)]
        simp only [stepTold]
        congr 2
        omega
  rw [if_neg h3]
  have h3' : isLow c = false := Bool.eq_false_iff.mpr h3
  have skip3 : ∀ k, token_All.one k s (i : Int) (c.toNat : Int) ((i + 1 : Nat) : Int) = (token_digit.f (c.toNat : Int)).bind fun b => if b = true then
    ((token_number.f k s i).bind fun q => if q.2.2.2 = 0 then some (.tok ⟨2, ⟨#[]⟩, q.1, i⟩ q.2.1) else some (.bad q.2.2.1 q.2.2.2)) else
  if (c.toNat : Int) = 34 then ((token_text.f k s i).bind fun q => if q.2.2.2 = 0 then some (.tok ⟨3, q.1, 0, i⟩ q.2.1) else some (.bad q.2.2.1 q.2.2.2)) else
  if (c.toNat : Int) = 33 then (if ((i + 1 : Nat) : Int) = (s.size : Int) then some (.bad ((i + 1 : Nat) : Int) 4) else if ((i + 1 : Nat) : Int) < (s.size : Int) then (if bt s ((i + 1 : Nat) : Int) = 61 then token_All.sg s i c.toNat ((i + 1 : Nat) : Int) else some (.bad ((i + 1 : Nat) : Int) 9)) else none) else
  token_All.sg s i c.toNat ((i + 1 : Nat) : Int) := by
    intro k
    unfold token_All.one
    rw [if_neg (by omega), if_neg (by omega), if_neg (by omega), letter_is, h3']
    simp only [Option.bind_some, Bool.false_eq_true, if_false]
  by_cases h4 : isDig c = true
  · rw [if_pos h4]
    have := number_is s hs i (c :: cs) h (by omega)
    refine Ev.congr (fun k => ?_) (Ev.bindc (g := fun k q => if q.2.2.2 = 0 then some (Step07.tok ⟨2, ⟨#[]⟩, q.1, i⟩ q.2.1) else some (.bad q.2.2.1 q.2.2.2)) this (Ev.congr (fun k => ?_) (Ev.now _)))
    · show token_All.one k s _ _ _ = _
      rw [skip3, digit_is, h4]
      simp only [Option.bind_some, if_true]
    · cases hn : num (c :: cs) with
      | skip x => exact absurd hn num_kind
      | tok kd t v m => obtain ⟨rfl, rfl, hm⟩ := num_tok hn; simp [numTold, stepTold]
      | bad p e => have := num_bad hn; simp [numTold, stepTold, this]
  rw [if_neg h4]
  have h4' : isDig c = false := Bool.eq_false_iff.mpr h4
  have skip4 : ∀ k, token_All.one k s (i : Int) (c.toNat : Int) ((i + 1 : Nat) : Int) =
  if (c.toNat : Int) = 34 then ((token_text.f k s i).bind fun q => if q.2.2.2 = 0 then some (.tok ⟨3, q.1, 0, i⟩ q.2.1) else some (.bad q.2.2.1 q.2.2.2)) else
  if (c.toNat : Int) = 33 then (if ((i + 1 : Nat) : Int) = (s.size : Int) then some (.bad ((i + 1 : Nat) : Int) 4) else if ((i + 1 : Nat) : Int) < (s.size : Int) then (if bt s ((i + 1 : Nat) : Int) = 61 then token_All.sg s i c.toNat ((i + 1 : Nat) : Int) else some (.bad ((i + 1 : Nat) : Int) 9)) else none) else
  token_All.sg s i c.toNat ((i + 1 : Nat) : Int) := by
    intro k
    rw [skip3, digit_is, h4']
    simp only [Option.bind_some, Bool.false_eq_true, if_false]
  clear skip3
  by_cases h5 : c.toNat = 34
  · rw [if_pos h5]
    have := text_is s hs i c cs h
    refine Ev.congr (fun k => ?_) (Ev.bindc (g := fun k q => if q.2.2.2 = 0 then some (Step07.tok ⟨3, q.1, 0, i⟩ q.2.1) else some (.bad q.2.2.1 q.2.2.2)) this (Ev.congr (fun k => ?_) (Ev.now _)))
    · show token_All.one k s _ _ _ = _
      rw [skip4, if_pos (by omega)]
    · rw [List.length_cons]
      cases hn : textGo (cs.length + 1) cs 1 [] with
      | skip x => exact absurd hn text_ne
      | tok kd t v m => obtain ⟨rfl, rfl⟩ := text_kind hn; simp [textTold, stepTold]
      | bad p e => have := text_bad (by omega) hn; simp [textTold, stepTold, this]
  rw [if_neg h5]
  refine Ev.congr (fun k => ?_) (Ev.now _)
  show token_All.one k s _ _ _ = _
  rw [skip4, if_neg (by omega)]
  by_cases h6 : c.toNat = 33
  · rw [if_pos (by omega)]
    cases cs with
    | nil =>
      have hz := size_of_nil hd (by omega)
      rw [if_pos (by omega), sgn, if_pos ⟨h6, by simp⟩, if_pos rfl]
      simp [stepTold]
    | cons d cs =>
      obtain ⟨hb2, hlt2, hd2⟩ := bt_get hd
      rw [if_neg (by omega), if_pos (by omega), hb2]
      by_cases h7 : d.toNat = 61
      · have hd' : d = 61 := u8_eq (by decide) h7
        rw [if_pos (by omega)]
        exact sg_is s hs i c (d :: cs) h (by rw [hd']; simp)
      · rw [if_neg (by omega), sgn, if_pos ⟨h6, by simp; intro e; exact h7 (by rw [e]; rfl)⟩, if_neg (by simp)]
        simp [stepTold]
  · rw [if_neg (by omega)]
    exact sg_is s hs i c cs h (fun x => h6 x.1)
theorem one_skip {c : UInt8} {cs : List UInt8} {n : Nat} (h : one (c :: cs) = .skip n) : 1 ≤ n ∧ n ≤ (c :: cs).length := by
  rw [one] at h
  have hle := takeWhile_le (fun d => decide (d.toNat ≠ 10)) cs
  by_cases h1 : c.toNat = 32 ∨ c.toNat = 10
  · rw [if_pos h1] at h; cases h; simp
  rw [if_neg h1] at h
  by_cases h2 : c.toNat = 35
  · rw [if_pos h2] at h; cases h; rw [List.length_cons]; omega
  rw [if_neg h2] at h
  split at h
  · split at h <;> cases h
  split at h
  · exact absurd h num_kind
  split at h
  · exact absurd h text_ne
  unfold sgn at h
  repeat' split at h
  all_goals cases h
theorem one_tok {c : UInt8} {cs : List UInt8} {kd v n : Nat} {t : List UInt8} (h : one (c :: cs) = .tok kd t v n) : 1 ≤ n ∧ n ≤ (c :: cs).length := by
  rw [one] at h
  split at h
  · cases h
  split at h
  · cases h
  split at h
  · have hle := takeWhile_le isInn cs
    split at h
    · cases h
    · cases h; rw [List.length_cons]; omega
  split at h
  · rename_i hd
    obtain ⟨_, _, rfl⟩ := num_tok h
    have hle := takeWhile_le isDig (c :: cs)
    rw [List.takeWhile_cons_of_pos hd, List.length_cons] at hle ⊢
    omega
  split at h
  · obtain ⟨a, b⟩ := text_len h
    rw [List.length_cons]
    omega
  unfold sgn at h
  split at h
  · split at h <;> cases h
  split at h
  · cases h
  split at h
  · rename_i hx
    cases h
    cases cs with
    | nil => simp at hx
    | cons d cs => simp
  · cases h; simp
theorem drop_len {s : ByteArray} {i : Nat} {cs : List UInt8} (h : s.data.toList.drop i = cs) (hi : i ≤ s.size) : i + cs.length = s.size := by
  have := congrArg List.length h
  simp at this
  have e : s.data.size = s.size := rfl
  omega
theorem all_go (s : ByteArray) (hs : s.size ≤ 16384) : ∀ (n : Nat) (cs : List UInt8) (i : Nat) (acc : List LTok), cs.length < n → s.data.toList.drop i = cs → i ≤ s.size → acc.length ≤ i →
    Ev (fun k => token_All.l0 k s (acc.map LTok.S) (i : Int)) (told (toks n cs i acc))
  | 0, _, _, _, h, _, _, _ => absurd h (Nat.not_lt_zero _)
  | n + 1, [], i, acc, hn, h, hi, ha => by
    refine Ev.step (f := fun _ => some (acc.map LTok.S, 0, 0)) (fun k => ?_) (Ev.now _)
    show token_All.l0 (k + 1) s _ _ = _
    rw [token_All.l0, if_neg (drop_nil h)]
  | n + 1, c :: cs, i, acc, hn, h, hi, ha => by
    obtain ⟨hb, hlt, hd⟩ := bt_get h
    have hsz := drop_len h hi
    refine Ev.step (f := fun k => (token_All.one k s (i : Int) (c.toNat : Int) ((i + 1 : Nat) : Int)).bind fun
      | .skip j => token_All.l0 k s (acc.map LTok.S) j
      | .tok x j => if (acc.map LTok.S).length < 3518437208883 then token_All.l0 k s (acc.map LTok.S ++ [x]) j else none
      | .bad a e => some ([], a, e)) (fun k => ?_) ?_
    · show token_All.l0 (k + 1) s _ _ = _
      rw [token_All.l0, if_pos (by omega), if_pos (by omega), hb, w64 (by omega) (by omega)]
      rfl
    refine Ev.bindc (one_is s hs i c cs h) ?_
    rw [toks]
    cases ho : one (c :: cs) with
    | skip m =>
      obtain ⟨m1, m2⟩ := one_skip ho
      have := all_go s hs n ((c :: cs).drop m) (i + m) acc (by simp at hn m2 ⊢; omega) (by rw [← List.drop_drop, h]) (by omega) (by omega)
      exact this
    | tok kd t v m =>
      obtain ⟨m1, m2⟩ := one_tok ho
      have := all_go s hs n ((c :: cs).drop m) (i + m) (acc ++ [⟨kd, t, v, i⟩]) (by simp at hn m2 ⊢; omega) (by rw [← List.drop_drop, h]) (by omega) (by simp; omega)
      refine Ev.congr (fun k => ?_) this
      simp only [stepTold, List.length_map, List.map_append, List.map_cons, List.map_nil]
      rw [if_pos (by omega)]
      rfl
    | bad p e =>
      exact Ev.now _
theorem all_is (s : ByteArray) : Ev (fun k => token_All.f k s) (told (lexAll s.data.toList)) := by
  have e : s.data.toList.length = s.size := by simp
  unfold lexAll
  rw [e]
  by_cases h : 16384 < s.size
  · rw [if_pos h]
    refine Ev.congr (fun k => ?_) (Ev.now _)
    show token_All.f k s = _
    rw [token_All.f, if_pos (by omega)]
    rfl
  · rw [if_neg h]
    have := all_go s (by omega) (s.size + 1) s.data.toList 0 [] (by omega) (by simp) (by omega) (by simp)
    refine Ev.congr (fun k => ?_) this
    show token_All.f k s = _
    rw [token_All.f, if_neg (by omega)]
    rfl
end Go.Proofs.YtlbchdalimngjaaDoor.Lex
namespace Go.Proofs.YtlbchdalimngjaaDoor.Lex
open Go.RowKit Go.Proofs.YtlbchdalimngjaaDoorW.PrintWords Go.Proofs.YtlbchdalimngjaaDoorW.PrintLast Go.Proofs.YtlbchdalimngjaaDoor.P
set_option linter.unusedVariables false
set_option linter.unusedSimpArgs false
theorem toks_fuel : ∀ (n m : Nat) (cs : List UInt8) (p : Nat) (acc : List LTok), cs.length < n → cs.length < m → toks n cs p acc = toks m cs p acc
  | 0, _, _, _, _, h, _ => absurd h (Nat.not_lt_zero _)
  | _, 0, _, _, _, _, h => absurd h (Nat.not_lt_zero _)
  | n + 1, m + 1, [], p, acc, _, _ => rfl
  | n + 1, m + 1, c :: cs, p, acc, hn, hm => by
    rw [toks, toks]
    cases ho : one (c :: cs) with
    | skip k =>
      obtain ⟨h1, h2⟩ := one_skip ho
      exact toks_fuel n m _ _ _ (by simp at hn h2 ⊢; omega) (by simp at hm h2 ⊢; omega)
    | tok kd t v k =>
      obtain ⟨h1, h2⟩ := one_tok ho
      exact toks_fuel n m _ _ _ (by simp at hn h2 ⊢; omega) (by simp at hm h2 ⊢; omega)
    | bad o e => rfl
def LTok.shift (d : Nat) (t : LTok) : LTok := ⟨t.kind, t.text, t.val, t.pos + d⟩
def after (acc : List LTok) (d : Nat) : Except (Nat × Nat) (List LTok) → Except (Nat × Nat) (List LTok)
  | .ok l => .ok (acc ++ l.map (LTok.shift d))
  | .error (p, e) => .error (p + d, e)
def lx (cs : List UInt8) (p : Nat) (acc : List LTok) : Except (Nat × Nat) (List LTok) := toks (cs.length + 1) cs p acc
theorem lx_nil (p : Nat) (acc : List LTok) : lx [] p acc = .ok acc := rfl
theorem lx_skip {c : UInt8} {cs : List UInt8} {n : Nat} (h : one (c :: cs) = .skip n) (p : Nat) (acc : List LTok) : lx (c :: cs) p acc = lx ((c :: cs).drop n) (p + n) acc := by
  obtain ⟨h1, h2⟩ := one_skip h
  unfold lx
  rw [toks, h]
  exact toks_fuel _ _ _ _ _ (by simp at h2 ⊢; omega) (by omega)
theorem lx_tok {c : UInt8} {cs t : List UInt8} {kd v n : Nat} (h : one (c :: cs) = .tok kd t v n) (p : Nat) (acc : List LTok) : lx (c :: cs) p acc = lx ((c :: cs).drop n) (p + n) (acc ++ [⟨kd, t, v, p⟩]) := by
  obtain ⟨h1, h2⟩ := one_tok h
  unfold lx
  rw [toks, h]
  exact toks_fuel _ _ _ _ _ (by simp at h2 ⊢; omega) (by omega)
end Go.Proofs.YtlbchdalimngjaaDoor.Lex
namespace Go.Proofs.YtlbchdalimngjaaDoor.Lex
open Go.RowKit Go.Proofs.YtlbchdalimngjaaDoorW.PrintWords Go.Proofs.YtlbchdalimngjaaDoorW.PrintLast Go.Proofs.YtlbchdalimngjaaDoor.P
set_option linter.unusedVariables false
set_option linter.unusedSimpArgs false
theorem lexAll_lx {cs : List UInt8} (h : cs.length ≤ 16384) : lexAll cs = lx cs 0 [] := by
  unfold lexAll lx
  rw [if_neg (by omega)]
theorem rd_at (l : List S40) (i : Nat) (x : S40) (h : l[i]? = some x) : rd_T40 l (i : Int) = x := by
  unfold rd_T40
  rw [List.getD_eq_getElem?_getD, Int.toNat_natCast, h]
  rfl
theorem alike_go (l : List S40) (hl : l.length ≤ 1000000) : ∀ (n i : Nat), i + n = l.length → Ev (fun k => prompterlaw07_Alike.l0 k l l (i : Int)) true
  | 0, i, h => Ev.step (f := fun _ => some true) (fun k => by
      show prompterlaw07_Alike.l0 (k + 1) l l (i : Int) = _
      rw [prompterlaw07_Alike.l0, if_neg (by omega)]) (Ev.now _)
  | n + 1, i, h => by
    refine Ev.step (fun k => ?_) (alike_go l hl n (i + 1) (by omega))
    show prompterlaw07_Alike.l0 (k + 1) l l (i : Int) = _
    rw [prompterlaw07_Alike.l0, if_pos (by omega), if_pos (by omega), if_pos (by omega), w64 (by omega) (by omega), if_neg (by simp)]
    rfl
theorem alike_refl (l : List S40) (hl : l.length ≤ 1000000) : Ev (fun k => prompterlaw07_Alike.f k l l) true := by
  refine Ev.congr (fun k => ?_) (alike_go l hl l.length 0 (by omega))
  show prompterlaw07_Alike.f k l l = _
  rw [prompterlaw07_Alike.f, if_pos rfl]
  rfl
theorem wakes_is : Ev (fun k => prompterlaw07_wakes.f k) true := Ev.of prompterlaw07_wakes.mono (k := 40) (by kernel_rfl)
end Go.Proofs.YtlbchdalimngjaaDoor.Lex
namespace Go.Proofs.YtlbchdalimngjaaDoor.Lex
open Go.RowKit Go.Proofs.YtlbchdalimngjaaDoorW.PrintWords Go.Proofs.YtlbchdalimngjaaDoorW.PrintLast Go.Proofs.YtlbchdalimngjaaDoor.P
set_option linter.unusedVariables false
set_option linter.unusedSimpArgs false
abbrev Tok := S40
def hexD (n : Nat) : UInt8 := if n < 10 then UInt8.ofNat (48 + n) else UInt8.ofNat (87 + n)
def escB (c : UInt8) : List UInt8 :=
  if c.toNat = 34 ∨ c.toNat = 92 then [92, c] else if c.toNat = 10 then [92, 110] else if c.toNat < 32 ∨ 126 < c.toNat then [92, 120, hexD (c.toNat / 16), hexD (c.toNat % 16)] else [c]
def quoteL (l : List UInt8) : List UInt8 := 34 :: l.flatMap escB ++ [34]
theorem escB_len (c : UInt8) : (escB c).length ≤ 4 := by
  unfold escB
  split
  · simp
  · split
    · simp
    · split <;> simp
theorem flat_len : ∀ l : List UInt8, (l.flatMap escB).length ≤ 4 * l.length
  | [] => by simp
  | c :: l => by
    have := escB_len c
    have := flat_len l
    rw [List.flatMap_cons, List.length_append, List.length_cons]
    omega
theorem hexs_is : ∀ n : Fin 16, bt (⟨#[48, 49, 50, 51, 52, 53, 54, 55, 56, 57, 97, 98, 99, 100, 101, 102]⟩ : ByteArray) (n.val : Int) = ((hexD n.val).toNat : Int) := by decide +kernel
theorem and15 : ∀ n : Fin 256, Go.bits .and .u8 (n.val : Int) 15 = ((n.val % 16 : Nat) : Int) := by decide +kernel
theorem hex_at (n : Nat) (h : n < 16) : bt (⟨#[48, 49, 50, 51, 52, 53, 54, 55, 56, 57, 97, 98, 99, 100, 101, 102]⟩ : ByteArray) (n : Int) = ((hexD n).toNat : Int) := hexs_is ⟨n, h⟩
theorem and_15 (c : UInt8) : Go.bits .and .u8 (c.toNat : Int) 15 = ((c.toNat % 16 : Nat) : Int) := and15 ⟨c.toNat, c.toNat_lt⟩
theorem bytes_snoc (out l : List UInt8) : bytesInt out ++ bytesInt l = bytesInt (out ++ l) := by simp [bytesInt]
theorem quo_go (s : ByteArray) (hs : s.size ≤ 16384) : ∀ (cs out : List UInt8) (i : Nat), s.data.toList.drop i = cs → i ≤ s.size → out.length ≤ 4 * i + 1 →
    Ev (fun k => token_quoted.l0 k s (bytesInt out) (s.size : Int) (i : Int)) ⟨(out ++ cs.flatMap escB ++ [34]).toArray⟩
  | [], out, i, h, hi, ho => by
    refine Ev.step (f := fun _ => some ⟨(out ++ [34]).toArray⟩) (fun k => ?_) ?_
    · show token_quoted.l0 (k + 1) s _ _ _ = _
      rw [token_quoted.l0, if_neg (drop_nil h), if_pos (by rw [bytesInt, List.length_map]; omega)]
      rw [show bytesInt out ++ [34] = bytesInt (out ++ [34]) from bytes_snoc out [34], strOf_bytes]
    · simpa using Ev.now _
  | c :: cs, out, i, h, hi, ho => by
    obtain ⟨hb, hlt, hd⟩ := bt_get h
    have hc := c.toNat_lt
    have ih := quo_go s hs cs (out ++ escB c) (i + 1) hd (by omega) (by have := escB_len c; rw [List.length_append]; omega)
    rw [show out ++ escB c ++ cs.flatMap escB ++ [34] = out ++ (c :: cs).flatMap escB ++ [34] by simp] at ih
    have hw : wrap64 ((i : Int) + 1) = ((i + 1 : Nat) : Int) := by rw [w64 (by omega) (by omega)]; rfl
    have put : ∀ y : List Int, (∀ k, y = bytesInt (escB c) → ((some y).bind fun y => if (bytesInt out).length + y.length < 140737488355328 then token_quoted.l0 k s (bytesInt out ++ y) (s.size : Int) (wrap64 ((i : Int) + 1)) else none) = token_quoted.l0 k s (bytesInt (out ++ escB c)) (s.size : Int) ((i + 1 : Nat) : Int)) := by
      intro y k hy
      subst hy
      have := escB_len c
      rw [Option.bind_some, if_pos (by simp only [bytesInt, List.length_map]; omega), bytes_snoc, hw]
    refine Ev.step (f := fun k => token_quoted.j1 k s (bytesInt out) (c.toNat : Int) (s.size : Int) (i : Int) (decide (c.toNat = 34 ∨ c.toNat = 92))) (fun k => ?_) ?_
    · show token_quoted.l0 (k + 1) s _ _ _ = _
      rw [token_quoted.l0, if_pos (by omega), if_pos (by omega), if_pos (by omega), hb]
      by_cases h1 : c.toNat = 34
      · rw [if_pos (by omega)]; simp [h1]
      · rw [if_neg (by omega)]
        congr 1
        by_cases h2 : c.toNat = 92
        · rw [decide_eq_true (Or.inr h2)]; exact beq_iff_eq.2 (by omega)
        · rw [decide_eq_false (by omega)]; exact beq_eq_false_iff_ne.2 (by omega)
    · refine Ev.step (f := fun k => token_quoted.l0 k s (bytesInt (out ++ escB c)) (s.size : Int) ((i + 1 : Nat) : Int)) (fun k => ?_) ih
      show token_quoted.j1 (k + 1) s _ _ _ _ _ = _
      rw [token_quoted.j1]
      by_cases h1 : c.toNat = 34 ∨ c.toNat = 92
      · rw [if_pos (decide_eq_true h1)]
        exact put _ k (by rw [escB, if_pos h1]; rfl)
      · rw [if_neg (by simpa using h1)]
        by_cases h2 : c.toNat = 10
        · rw [if_pos (by omega)]
          exact put _ k (by rw [escB, if_neg h1, if_pos h2]; rfl)
        · rw [if_neg (by omega)]
          have e16 : (c.toNat : Int) / 16 = ((c.toNat / 16 : Nat) : Int) := by omega
          have hx : c.toNat < 32 ∨ 126 < c.toNat → [92, 120, bt (⟨#[48, 49, 50, 51, 52, 53, 54, 55, 56, 57, 97, 98, 99, 100, 101, 102]⟩ : ByteArray) ((c.toNat : Int) / 16), bt (⟨#[48, 49, 50, 51, 52, 53, 54, 55, 56, 57, 97, 98, 99, 100, 101, 102]⟩ : ByteArray) (Go.bits .and .u8 (c.toNat : Int) 15)] = bytesInt (escB c) := by
            intro h3
            rw [escB, if_neg h1, if_neg h2, if_pos h3, e16, and_15, hex_at _ (by omega), hex_at _ (by omega)]
            rfl
          have g1 : (0 : Int) ≤ (c.toNat : Int) / 16 := by omega
          have g2 : (c.toNat : Int) / 16 < 16 := by omega
          have g3 : (0 : Int) ≤ Go.bits .and .u8 (c.toNat : Int) 15 := by rw [and_15]; omega
          have g4 : Go.bits .and .u8 (c.toNat : Int) 15 < 16 := by rw [and_15]; omega
          by_cases h3 : c.toNat < 32
          · rw [if_pos (by omega), if_pos g1, if_pos g2, if_pos g3, if_pos g4]
            exact put _ k (hx (.inl h3))
          · rw [if_neg (by omega)]
            by_cases h4 : 126 < c.toNat
            · rw [if_pos (by omega), if_pos g1, if_pos g2, if_pos g3, if_pos g4]
              exact put _ k (hx (.inr h4))
            · rw [if_neg (by omega), if_pos (by simp only [bytesInt, List.length_map]; omega), hw]
              rw [escB, if_neg h1, if_neg h2, if_neg (by omega), ← bytes_snoc]
              rfl
theorem quoted_is (s : ByteArray) (hs : s.size ≤ 16384) : Ev (fun k => token_quoted.f k s) ⟨(quoteL s.data.toList).toArray⟩ := quo_go s hs s.data.toList [34] 0 rfl (by omega) (by simp)
theorem dec_len (n : Nat) (h : n ≤ 9223372036854775807) : (Lib.decDigits n).length ≤ 21 := by
  have := Lib.itoa_length_le (n : Int) (by omega) (by omega)
  rwa [Lib.itoa_nonneg] at this
theorem dec_big {n : Nat} (h : ¬ n < 10) : Lib.decDigits n = Lib.decDigits (n / 10) ++ [UInt8.ofNat (48 + n % 10)] := by rw [Lib.decDigits, dif_neg h]
def marksL : List (List UInt8) := [[61, 61], [33, 61], [60, 61], [40], [41], [123], [125], [91], [93], [44], [61], [60], [43], [45], [42], [47], [37]]
def wordB : List UInt8 → Bool
  | [] => false
  | c :: cs => isLow c && (decide (cs.length < 24) && cs.all isInn)
def rightB (x : Tok) : Bool :=
  if x.f0 = 1 then wordB x.f1.data.toList && decide (x.f2 = 0) else if x.f0 = 2 then decide (0 ≤ x.f2) && decide (x.f1.data.toList = []) else if x.f0 = 3 then decide (x.f1.data.toList.length ≤ 4095) && decide (x.f2 = 0) else
    if x.f0 = 4 then decide (x.f1.data.toList ∈ marksL) && decide (x.f2 = 0) else false
theorem sz (s : ByteArray) : (s.size : Int) = (s.data.toList.length : Int) := by simp
theorem inn_go (s : ByteArray) (hs : s.size ≤ 24) (a0 a2 a3 : Int) : ∀ (cs : List UInt8) (i : Nat), s.data.toList.drop i = cs → i ≤ s.size →
    Ev (fun k => token_right.l0 k (s.size : Int) (i : Int) a0 s a2 a3 a0 s 0 a3) (cs.all isInn && decide (a2 = 0))
  | [], i, h, hi => by
    refine Ev.step (f := fun _ => some (decide (a2 = 0))) (fun k => ?_) (Ev.now _)
    show token_right.l0 (k + 1) _ _ _ _ _ _ _ _ _ _ = _
    rw [token_right.l0, if_neg (drop_nil h)]
    simp only [beq_self_eq_true, Bool.true_and, Bool.and_true]
    congr 1
    by_cases h0 : a2 = 0
    · subst h0; rfl
    · rw [decide_eq_false h0]; exact beq_eq_false_iff_ne.2 (fun e => h0 e.symm)
  | c :: cs, i, h, hi => by
    obtain ⟨hb, hlt, hd⟩ := bt_get h
    have ih := inn_go s hs a0 a2 a3 cs (i + 1) hd (by omega)
    cases hc : isInn c with
    | true =>
      rw [List.all_cons, hc, Bool.true_and]
      refine Ev.step (fun k => ?_) ih
      show token_right.l0 (k + 1) _ _ _ _ _ _ _ _ _ _ = _
      rw [token_right.l0, if_pos (by omega), if_pos (by omega), if_pos (by omega), hb, inner_is, hc, w64 (by omega) (by omega)]
      rfl
    | false =>
      rw [List.all_cons, hc, Bool.false_and, Bool.false_and]
      refine Ev.step (f := fun _ => some false) (fun k => ?_) (Ev.now _)
      show token_right.l0 (k + 1) _ _ _ _ _ _ _ _ _ _ = _
      rw [token_right.l0, if_pos (by omega), if_pos (by omega), if_pos (by omega), hb, inner_is, hc]
      rfl
theorem right_is (x0 x2 x3 : Int) (s : ByteArray) : Ev (fun k => token_right.f k x0 s x2 x3) (rightB ⟨x0, s, x2, x3⟩) := by
  unfold token_right.f rightB
  simp only [ByteArray.toList_eq]
  refine ite_Ev (fun k1 => ?_) (fun k1 => ?_)
  · rw [if_pos k1]
    have bad : Ev (fun k => token_right.j0 k true x0 s x2 x3 x0 s 0 x3) false := by
      refine Ev.step (f := fun _ => some false) (fun k => ?_) (Ev.now _)
      show token_right.j0 (k + 1) _ _ _ _ _ _ _ _ _ = _
      rw [token_right.j0, if_pos rfl]
    cases hl : s.data.toList with
    | nil =>
      simp only [eq_self, if_true]
      exact bad
    | cons c cs =>
      simp only [reduceCtorEq, if_false]
      obtain ⟨hb, hlt, hd⟩ := bt_get (s := s) (i := 0) (c := c) (cs := cs) hl
      have hz := sz s
      rw [hl, List.length_cons] at hz
      refine ite_Ev (fun h => ?_) (fun h => ?_)
      · rw [wordB, decide_eq_false (show ¬ cs.length < 24 by omega)]
        simpa using bad
      · rw [wordB, decide_eq_true (show cs.length < 24 by omega), Bool.true_and]
        simp only [if_pos (show 0 < (s.size : Int) by omega)]
        rw [show bt s 0 = (c.toNat : Int) from hb, letter_is]
        simp only [Option.bind_some]
        cases hc : isLow c with
        | false => simpa using bad
        | true =>
          have := inn_go s (by omega) x0 x2 x3 (c :: cs) 0 hl (by omega)
          rw [List.all_cons, show isInn c = true by unfold isInn; rw [hc]; rfl, Bool.true_and] at this
          rw [Bool.true_and]
          refine Ev.step (fun k => ?_) this
          show token_right.j0 (k + 1) _ _ _ _ _ _ _ _ _ = _
          rw [token_right.j0, if_neg (by decide)]
          rfl
  · rw [if_neg k1]
    refine ite_Ev (fun k2 => ?_) (fun k2 => ?_)
    · rw [if_pos k2]
      refine ite_Ev (fun h => ?_) (fun h => ?_)
      · rw [decide_eq_false (show ¬ 0 ≤ x2 by omega)]
        exact Ev.now _
      · rw [decide_eq_true (show 0 ≤ x2 by omega), Bool.true_and]
        rw [show (([] : List UInt8) == s.data.toList) = decide (s.data.toList = []) by cases s.data.toList <;> rfl]
        exact Ev.now _
    · rw [if_neg k2]
      have z : (0 == x2) = decide (x2 = 0) := by
        by_cases h0 : x2 = 0
        · subst h0; rfl
        · rw [decide_eq_false h0]; exact beq_eq_false_iff_ne.2 (fun e => h0 e.symm)
      rw [z]
      refine ite_Ev (fun k3 => ?_) (fun k3 => ?_)
      · rw [if_pos k3]
        have hz := sz s
        refine ite_Ev (fun h => ?_) (fun h => ?_)
        · rw [decide_eq_false (show ¬ s.data.toList.length ≤ 4095 by omega)]
          exact Ev.now _
        · rw [decide_eq_true (show s.data.toList.length ≤ 4095 by omega), Bool.true_and]
          exact Ev.now _
      · rw [if_neg k3]
        refine ite_Ev (fun k4 => ?_) (fun k4 => ?_)
        · rw [if_pos k4]
          generalize s.data.toList = l
          have yes : l ∈ marksL → Ev (fun _ : Nat => some (decide (x2 = 0))) (decide (l ∈ marksL) && decide (x2 = 0)) := fun h => by rw [decide_eq_true h, Bool.true_and]; exact Ev.now _
          repeat' refine ite_Ev (fun h => yes (by rw [h]; decide)) (fun _ => ?_)
          rw [decide_eq_false (by simp only [marksL, List.mem_cons, List.not_mem_nil, or_false]; intro h; rcases h with h | h | h | h | h | h | h | h | h | h | h | h | h | h | h | h | h <;> exact absurd h (by assumption))]
          exact Ev.now _
        · rw [if_neg k4]
          exact Ev.now _
def pieceL (x : Tok) : List UInt8 := if x.f0 = 2 then Lib.decDigits x.f2.toNat else if x.f0 = 3 then quoteL x.f1.data.toList else x.f1.data.toList
def joinL : Bool → List Tok → List UInt8
  | _, [] => []
  | f, x :: l => (if f = true then [] else [32]) ++ pieceL x ++ joinL false l
def finL (b : List UInt8) : ByteArray × Int := if 16384 < b.length then (⟨#[]⟩, 2) else (⟨b.toArray⟩, 0)
def spellL (l : List Tok) : ByteArray × Int := if l.all rightB = true then finL (joinL true l) else (⟨#[]⟩, 3)
theorem finL_long {b c : List UInt8} (h1 : 16384 < b.length) (h2 : 16384 < c.length) : finL b = finL c := by rw [finL, finL, if_pos h1, if_pos h2]
theorem right_sz {x : Tok} (h : rightB x = true) : x.f1.size ≤ 4095 ∧ (x.f0 = 2 → 0 ≤ x.f2) := by
  obtain ⟨x0, s, x2, x3⟩ := x
  unfold rightB at h
  dsimp only at h ⊢
  have hz := sz s
  split at h
  · rename_i h1
    refine ⟨?_, fun h2 => by omega⟩
    cases hl : s.data.toList with
    | nil => rw [hl] at hz; simp only [List.length_nil] at hz; omega
    | cons c cs =>
      rw [hl, wordB] at h
      simp at h
      rw [hl, List.length_cons] at hz
      omega
  · split at h
    · simp at h
      rw [h.2] at hz
      refine ⟨by simp only [List.length_nil] at hz; omega, fun _ => h.1⟩
    · split at h
      · simp at h
        refine ⟨?_, fun h2 => by omega⟩
        exact h.1
      · split at h
        · simp only [Bool.and_eq_true, decide_eq_true_eq] at h
          refine ⟨?_, fun h2 => by omega⟩
          have h1 := h.1
          have : ∀ l ∈ marksL, l.length ≤ 2 := by decide
          have := this _ h1
          omega
        · cases h
theorem piece_len {x : Tok} (h : rightB x = true) (hx : x.f2 ≤ 9223372036854775807) : (pieceL x).length ≤ 20000 := by
  have h1 := (right_sz h).1
  have h2 := data_length x.f1
  unfold pieceL
  split
  · have := dec_len x.f2.toNat (by omega)
    omega
  · split
    · have := flat_len x.f1.data.toList
      rw [quoteL, List.length_append, List.length_cons, List.length_singleton]
      omega
    · omega
theorem piece_is {k : Nat} {x : Tok} (h : rightB x = true) (hx : x.f2 ≤ 9223372036854775807) : Ev (fun k => piece k x) (pieceL x) := by
  have h1 := (right_sz h)
  unfold piece pieceL
  refine ite_Ev (fun k2 => ?_) (fun k2 => ?_)
  · rw [if_pos k2, if_pos ⟨h1.2 k2, hx⟩, show Lib.itoa x.f2 = Lib.decDigits x.f2.toNat by
      have := Lib.itoa_nonneg x.f2.toNat
      rwa [Int.toNat_of_nonneg (h1.2 k2)] at this]
    exact Ev.now _
  · rw [if_neg k2]
    refine ite_Ev (fun k3 => ?_) (fun k3 => ?_)
    · rw [if_pos k3]
      exact Ev.bind (quoted_is x.f1 (by omega)) (Ev.now _)
    · rw [if_neg k3]
      exact Ev.now _
theorem spell_go : ∀ (l : List Tok) (f : Bool) (b : List UInt8) (lg : Bool), (∀ x ∈ l, x.f2 ≤ 9223372036854775807) → (lg = true → 16384 < b.length) →
    Ev (fun k => spellGo k l f b lg) (if l.all rightB = true then finL (b ++ joinL f l) else (⟨#[]⟩, 3))
  | [], f, b, lg, hx, hl => by
    simp only [List.all_nil, if_true, joinL, List.append_nil]
    refine Ev.congr (fun k => ?_) (Ev.now _)
    show spellGo k [] f b lg = _
    rw [spellGo, finL]
    split <;> rfl
  | x :: l, f, b, lg, hx, hl => by
    have hx' : ∀ y ∈ l, y.f2 ≤ 9223372036854775807 := fun y hy => hx y (List.mem_cons_of_mem _ hy)
    show Ev (fun k => (token_right.f k x.f0 x.f1 x.f2 x.f3).bind fun ok => _) _
    refine Ev.bind (right_is x.f0 x.f2 x.f3 x.f1) ?_
    show Ev _ (if (rightB x && l.all rightB) = true then _ else _)
    have ex : rightB ⟨x.f0, x.f1, x.f2, x.f3⟩ = rightB x := rfl
    rw [ex]
    cases hr : rightB x with
    | false => simp only [if_true, Bool.false_and, Bool.false_eq_true, if_false]; exact Ev.now _
    | true =>
      simp only [Bool.true_and, Bool.true_eq_false, if_false]
      refine ite_Ev (fun h => ?_) (fun h => ?_)
      · have hb : 16384 < b.length := by rcases h with h | h; exact hl h; exact h
        have ih := spell_go l false b true hx' (fun _ => hb)
        rw [finL_long (b := b ++ joinL f (x :: l)) (c := b ++ joinL false l) (by rw [List.length_append]; omega) (by rw [List.length_append]; omega)]
        exact ih
      · have hp := piece_len hr (hx x List.mem_cons_self)
        refine Ev.bind (piece_is (k := 0) hr (hx x List.mem_cons_self)) ?_
        simp only [if_pos (show (pieceL x).length ≤ 1000000 by omega)]
        have ih := spell_go l false (b ++ (if f = true then [] else [32]) ++ pieceL x) false hx' (fun e => by cases e)
        rw [joinL, ← List.append_assoc, ← List.append_assoc]
        exact ih
theorem spell_is (l : List Tok) (hl : l.length ≤ 1000000) (hx : ∀ x ∈ l, x.f2 ≤ 9223372036854775807) : Ev (fun k => token_Spell.f k l) (spellL l) := by
  have := spell_go l true [] false hx (fun e => by cases e)
  unfold token_Spell.f spellL
  simp only [if_pos hl]
  exact this
end Go.Proofs.YtlbchdalimngjaaDoor.Lex
namespace Go.Proofs.YtlbchdalimngjaaDoor.Lex
open Go.RowKit Go.Proofs.YtlbchdalimngjaaDoorW.PrintWords Go.Proofs.YtlbchdalimngjaaDoorW.PrintLast Go.Proofs.YtlbchdalimngjaaDoor.P
set_option linter.unusedVariables false
set_option linter.unusedSimpArgs false
def Gap (rest : List UInt8) : Prop := rest = [] ∨ ∃ r, rest = 32 :: r
theorem Gap.head {rest : List UInt8} (h : Gap rest) : rest.head? = none ∨ rest.head? = some 32 := by
  rcases h with rfl | ⟨r, rfl⟩
  · exact .inl rfl
  · exact .inr rfl
theorem tw_gap (p : UInt8 → Bool) (hp : p 32 = false) : ∀ (cs rest : List UInt8), cs.all p = true → Gap rest → (cs ++ rest).takeWhile p = cs
  | [], rest, _, hr => by
    rcases hr with rfl | ⟨r, rfl⟩
    · rfl
    · exact List.takeWhile_cons_of_neg (by rw [hp]; decide)
  | c :: cs, rest, h, hr => by
    rw [List.all_cons, Bool.and_eq_true] at h
    rw [List.cons_append, List.takeWhile_cons_of_pos h.1, tw_gap p hp cs rest h.2 hr]
theorem low_out {c : UInt8} (h : isLow c = true) : ¬ (c.toNat = 32 ∨ c.toNat = 10) ∧ ¬ c.toNat = 35 := by
  unfold isLow at h
  simp at h
  omega
theorem dig_out {c : UInt8} (h : isDig c = true) : ¬ (c.toNat = 32 ∨ c.toNat = 10) ∧ ¬ c.toNat = 35 ∧ isLow c = false := by
  unfold isDig at h
  simp at h
  refine ⟨by omega, by omega, ?_⟩
  unfold isLow
  simp
  omega
theorem one_word {c : UInt8} {cs rest : List UInt8} (h : wordB (c :: cs) = true) (hr : Gap rest) : one (c :: cs ++ rest) = .tok 1 (c :: cs) 0 (cs.length + 1) := by
  rw [wordB] at h
  simp only [Bool.and_eq_true, decide_eq_true_eq] at h
  obtain ⟨hl, hc, hi⟩ := h
  have ho := low_out hl
  rw [List.cons_append, one, if_neg ho.1, if_neg ho.2, if_pos hl, tw_gap isInn (by decide) cs rest hi hr, if_neg (by omega), Nat.add_comm]
theorem ofNat_dig {i : Nat} (h : i < 10) : isDig (UInt8.ofNat (48 + i)) = true ∧ (UInt8.ofNat (48 + i)).toNat = 48 + i := by
  have e : (UInt8.ofNat (48 + i)).toNat = 48 + i := by rw [UInt8.toNat_ofNat']; omega
  refine ⟨?_, e⟩
  unfold isDig
  rw [e]
  simp
  omega
theorem dec_all (n : Nat) : (Lib.decDigits n).all isDig = true ∧ digVal (Lib.decDigits n) = n ∧ ∃ c l, Lib.decDigits n = c :: l ∧ (1 ≤ n → c ≠ 48) ∧ (n < 10 → l = []) := by
  induction n using Nat.strongRecOn with
  | ind n ih =>
    by_cases h : n < 10
    · obtain ⟨h1, h2⟩ := ofNat_dig h
      rw [Lib.decDigits_one h]
      refine ⟨by rw [List.all_cons, h1]; rfl, ?_, _, [], rfl, fun hn he => ?_, fun _ => rfl⟩
      · show 10 * 0 + ((UInt8.ofNat (48 + n)).toNat - 48) = n
        rw [h2]; omega
      · have := congrArg UInt8.toNat he
        rw [h2] at this
        have e48 : (48 : UInt8).toNat = 48 := rfl
        omega
    · obtain ⟨i1, i2, c, l, i3, i4, _⟩ := ih (n / 10) (by omega)
      obtain ⟨h1, h2⟩ := ofNat_dig (show n % 10 < 10 by omega)
      rw [dec_big h]
      refine ⟨by rw [List.all_append, i1, List.all_cons, h1]; rfl, ?_, c, l ++ [UInt8.ofNat (48 + n % 10)], by rw [i3]; rfl, fun _ => i4 (by omega), fun hn => absurd hn h⟩
      rw [digVal_snoc, i2, h2]
      omega
theorem one_num (n : Nat) (hn : n ≤ 9223372036854775807) {rest : List UInt8} (hr : Gap rest) : one (Lib.decDigits n ++ rest) = .tok 2 [] n (Lib.decDigits n).length := by
  obtain ⟨h1, h2, c, l, h3, h4, h5⟩ := dec_all n
  have tw : (Lib.decDigits n ++ rest).takeWhile isDig = Lib.decDigits n := tw_gap isDig (by decide) _ _ h1 hr
  have hd : isDig c = true := by rw [h3, List.all_cons, Bool.and_eq_true] at h1; exact h1.1
  have ho := dig_out hd
  have e1 : one (Lib.decDigits n ++ rest) = num (Lib.decDigits n ++ rest) := by
    rw [h3, List.cons_append, one, if_neg ho.1, if_neg ho.2.1, if_neg (by rw [ho.2.2]; decide), if_pos hd]
  rw [e1, num]
  simp only [tw]
  rw [h2, List.drop_left, if_neg ?_, if_neg (by unfold maxI; omega)]
  · rcases hr.head with h | h
    · rw [h]
    · rw [h]
      rfl
  · rintro ⟨a, b⟩
    rw [h3, List.cons_append, List.head?_cons, Option.some.injEq] at a
    by_cases h0 : 1 ≤ n
    · exact h4 h0 a
    · rw [h3, h5 (by omega)] at b
      simp at b
theorem hexV : ∀ n : Fin 16, hexVal (hexD n.val) = some n.val := by decide +kernel
theorem hex_val (n : Nat) (h : n < 16) : hexVal (hexD n) = some n := hexV ⟨n, h⟩
theorem chr_esc (c : UInt8) (more : List UInt8) : chr (escB c ++ more) = .ok (c, (escB c).length) := by
  have hc := c.toNat_lt
  have u8 : ∀ m : Nat, m < 256 → c.toNat = m → UInt8.ofNat m = c := fun m hm h => by rw [← h]; simp
  unfold escB
  split
  · rename_i h
    rw [List.cons_append, List.cons_append, chr.eq_def]
    dsimp only
    rw [if_neg (by decide), if_neg (by decide), if_pos h]
    rfl
  · rename_i h1
    split
    · rename_i h
      show chr (92 :: 110 :: more) = _
      rw [chr.eq_def]
      dsimp only
      rw [if_neg (by decide), if_neg (by decide), if_neg (by decide), if_pos (by decide)]
      rw [show (10 : UInt8) = c from u8 10 (by decide) h]
      rfl
    · rename_i h2
      split
      · rename_i h
        show chr (92 :: 120 :: hexD (c.toNat / 16) :: hexD (c.toNat % 16) :: more) = _
        rw [chr.eq_def]
        dsimp only
        rw [if_neg (by decide), if_neg (by decide), if_neg (by decide), if_neg (by decide), if_neg (by decide)]
        simp only [hex_val _ (show c.toNat / 16 < 16 by omega), hex_val _ (show c.toNat % 16 < 16 by omega)]
        rw [show (16 * (c.toNat / 16) + c.toNat % 16).toUInt8 = c by rw [show 16 * (c.toNat / 16) + c.toNat % 16 = c.toNat by omega]; simp]
        rfl
      · rename_i h
        show chr (c :: more) = _
        rw [chr.eq_def]
        dsimp only
        rw [if_neg h, if_pos (by omega)]
        rfl
theorem esc_head (c : UInt8) (more : List UInt8) : ∃ a l, escB c ++ more = a :: l ∧ ¬ a.toNat = 34 := by
  unfold escB
  split
  · exact ⟨92, _, rfl, by decide⟩
  · split
    · exact ⟨92, _, rfl, by decide⟩
    · split
      · exact ⟨92, _, rfl, by decide⟩
      · rename_i h _ _
        exact ⟨c, _, rfl, by omega⟩
theorem text_esc (rest : List UInt8) : ∀ (cs : List UInt8) (n o : Nat) (out : List UInt8), (cs.flatMap escB).length < n → out.length + cs.length ≤ 4095 →
    textGo n (cs.flatMap escB ++ 34 :: rest) o out = .tok 3 (out ++ cs) 0 (o + (cs.flatMap escB).length + 1)
  | [], n, o, out, hn, ho => by
    cases n with
    | zero => omega
    | succ n =>
    rw [List.flatMap_nil, List.nil_append, textGo, if_pos (by decide), List.append_nil]
    rfl
  | c :: cs, n, o, out, hn, ho => by
    cases n with
    | zero => omega
    | succ n =>
    rw [List.flatMap_cons, List.length_append] at hn
    rw [List.length_cons] at ho
    have hch := chr_esc c (cs.flatMap escB ++ 34 :: rest)
    obtain ⟨a, l, he, h34⟩ := esc_head c (cs.flatMap escB ++ 34 :: rest)
    have hle := escB_len c
    have hpos : 1 ≤ (escB c).length := by
      unfold escB
      split
      · simp
      · split
        · simp
        · split <;> simp
    have hdrop : (a :: l).drop (escB c).length = cs.flatMap escB ++ 34 :: rest := by rw [← he, List.drop_left]
    rw [List.flatMap_cons, List.append_assoc, he, textGo, if_neg h34, ← he, hch]
    dsimp only
    rw [if_neg (by omega), he, hdrop, text_esc rest cs n (o + (escB c).length) (out ++ [c]) (by omega) (by rw [List.length_append, List.length_singleton]; omega)]
    rw [List.append_assoc, List.singleton_append, List.length_append, Nat.add_assoc o]
theorem one_text (l rest : List UInt8) (hl : l.length ≤ 4095) : one (quoteL l ++ rest) = .tok 3 l 0 (quoteL l).length := by
  have e : quoteL l ++ rest = 34 :: (l.flatMap escB ++ 34 :: rest) := by simp [quoteL]
  rw [e, one, if_neg (by decide), if_neg (by decide), if_neg (by decide), if_neg (by decide), if_pos (by decide), text_esc rest l _ 1 [] (by simp; omega) (by simpa using hl)]
  rw [List.nil_append, quoteL, List.length_append, List.length_cons, List.length_singleton]
  congr 1
  omega
theorem one_sgl : ∀ c ∈ ([40, 41, 123, 125, 91, 93, 44, 61, 60, 43, 45, 42, 47, 37] : List UInt8), ∀ rest : List UInt8, Gap rest → one (c :: rest) = .tok 4 [c] 0 1 := by
  intro c hc rest hr
  have hh : rest.head? ≠ some 61 := by
    rcases hr.head with h | h <;> rw [h] <;> decide
  have h1 : ¬ (c.toNat = 32 ∨ c.toNat = 10) ∧ ¬ c.toNat = 35 ∧ isLow c = false ∧ isDig c = false ∧ ¬ c.toNat = 34 ∧ ¬ c.toNat = 33 ∧ c ∈ signs := by
    revert c; decide
  obtain ⟨a1, a2, a3, a4, a5, a6, a7⟩ := h1
  rw [one, if_neg a1, if_neg a2, if_neg (by rw [a3]; decide), if_neg (by rw [a4]; decide), if_neg a5, sgn, if_neg (fun h => a6 h.1), if_neg (fun h => h a7), if_neg (fun h => hh h.2)]
theorem one_dbl : ∀ c ∈ ([61, 33, 60] : List UInt8), ∀ rest : List UInt8, one (c :: 61 :: rest) = .tok 4 [c, 61] 0 2 := by
  intro c hc rest
  have h1 : ¬ (c.toNat = 32 ∨ c.toNat = 10) ∧ ¬ c.toNat = 35 ∧ isLow c = false ∧ isDig c = false ∧ ¬ c.toNat = 34 ∧ c ∈ signs ∧ (c.toNat = 61 ∨ c.toNat = 60 ∨ c.toNat = 33) := by
    revert c; decide
  obtain ⟨a1, a2, a3, a4, a5, a6, a7⟩ := h1
  rw [one, if_neg a1, if_neg a2, if_neg (by rw [a3]; decide), if_neg (by rw [a4]; decide), if_neg a5, sgn, if_neg (fun h => h.2 rfl), if_neg (fun h => h a6), if_pos ⟨a7, rfl⟩]
theorem one_mark {l rest : List UInt8} (h : l ∈ marksL) (hr : Gap rest) : one (l ++ rest) = .tok 4 l 0 l.length := by
  have hm : (∃ c ∈ ([40, 41, 123, 125, 91, 93, 44, 61, 60, 43, 45, 42, 47, 37] : List UInt8), l = [c]) ∨ ∃ c ∈ ([61, 33, 60] : List UInt8), l = [c, 61] := by
    revert l; decide
  rcases hm with ⟨c, hc, rfl⟩ | ⟨c, hc, rfl⟩
  · exact one_sgl c hc rest hr
  · exact one_dbl c hc rest
def Same (x : Tok) (t : LTok) : Prop := (t.kind : Int) = x.f0 ∧ t.text = x.f1.data.toList ∧ (t.val : Int) = x.f2
theorem one_piece {x : Tok} (h : rightB x = true) (hx : x.f2 ≤ 9223372036854775807) {rest : List UInt8} (hr : Gap rest) :
    ∃ kd tx v, one (pieceL x ++ rest) = .tok kd tx v (pieceL x).length ∧ pieceL x ≠ [] ∧ ((kd : Int) = x.f0 ∧ tx = x.f1.data.toList ∧ (v : Int) = x.f2) := by
  obtain ⟨x0, s, x2, x3⟩ := x
  unfold rightB at h
  dsimp only at h hx ⊢
  unfold pieceL
  dsimp only
  split at h
  · rename_i h1
    rw [if_neg (by omega), if_neg (by omega)]
    simp only [Bool.and_eq_true, decide_eq_true_eq] at h
    cases hl : s.data.toList with
    | nil => rw [hl] at h; exact absurd h.1 (by decide)
    | cons c cs =>
      rw [hl] at h
      exact ⟨1, c :: cs, 0, one_word h.1 hr, by simp, by omega, rfl, by omega⟩
  · split at h
    · rename_i h2
      rw [if_pos h2]
      simp only [Bool.and_eq_true, decide_eq_true_eq] at h
      refine ⟨2, [], x2.toNat, one_num x2.toNat (by omega) hr, ?_, by omega, h.2.symm, by omega⟩
      obtain ⟨_, _, c, l, h3, _⟩ := dec_all x2.toNat
      rw [h3]
      simp
    · rename_i h2
      rw [if_neg h2]
      split at h
      · rename_i h3
        rw [if_pos h3]
        simp only [Bool.and_eq_true, decide_eq_true_eq] at h
        exact ⟨3, s.data.toList, 0, one_text _ _ h.1, by simp [quoteL], by omega, rfl, by omega⟩
      · rename_i h3
        rw [if_neg h3]
        split at h
        · simp only [Bool.and_eq_true, decide_eq_true_eq] at h
          refine ⟨4, s.data.toList, 0, one_mark h.1 hr, ?_, by omega, rfl, by omega⟩
          intro e
          rw [e] at h
          exact absurd h.1 (by decide)
        · cases h
theorem join_gap : ∀ l : List Tok, Gap (joinL false l)
  | [] => .inl rfl
  | x :: l => .inr ⟨pieceL x ++ joinL false l, by simp [joinL]⟩
inductive Sames : List Tok → List LTok → Prop
  | nil : Sames [] []
  | cons {x : Tok} {t : LTok} {l : List Tok} {m : List LTok} : Same x t → Sames l m → Sames (x :: l) (t :: m)
theorem lx_join : ∀ (l : List Tok) (f : Bool) (p : Nat) (acc : List LTok), (∀ x ∈ l, rightB x = true) → (∀ x ∈ l, x.f2 ≤ 9223372036854775807) →
    ∃ m, lx (joinL f l) p acc = .ok (acc ++ m) ∧ Sames l m
  | [], f, p, acc, _, _ => ⟨[], by rw [joinL, lx_nil, List.append_nil], .nil⟩
  | x :: l, f, p, acc, hr, hx => by
    have core : ∀ p, ∃ m, lx (pieceL x ++ joinL false l) p acc = .ok (acc ++ m) ∧ Sames (x :: l) m := by
      intro p
      obtain ⟨kd, tx, v, h1, h0, h2⟩ := one_piece (hr x List.mem_cons_self) (hx x List.mem_cons_self) (join_gap l)
      obtain ⟨c, cs, hc⟩ : ∃ c cs, pieceL x ++ joinL false l = c :: cs := by
        cases hp : pieceL x with
        | nil => exact absurd hp h0
        | cons c cs => exact ⟨c, _, rfl⟩
      obtain ⟨m, hm, hs⟩ := lx_join l false (p + (pieceL x).length) (acc ++ [⟨kd, tx, v, p⟩]) (fun y hy => hr y (List.mem_cons_of_mem _ hy)) (fun y hy => hx y (List.mem_cons_of_mem _ hy))
      refine ⟨⟨kd, tx, v, p⟩ :: m, ?_, .cons h2 hs⟩
      rw [hc] at h1 ⊢
      rw [lx_tok h1, ← hc, List.drop_left, hm, List.append_assoc, List.singleton_append]
    rw [joinL, List.append_assoc]
    cases f with
    | true => simpa using core p
    | false =>
      have hk : one (32 :: (pieceL x ++ joinL false l)) = .skip 1 := by rw [one, if_pos (.inl rfl)]
      obtain ⟨m, hm, hs⟩ := core (p + 1)
      refine ⟨m, ?_, hs⟩
      show lx (32 :: (pieceL x ++ joinL false l)) p acc = _
      rw [lx_skip hk]
      exact hm
end Go.Proofs.YtlbchdalimngjaaDoor.Lex
namespace Go.Proofs.YtlbchdalimngjaaDoor.Lex
open Go.RowKit Go.Proofs.YtlbchdalimngjaaDoorW.PrintWords Go.Proofs.YtlbchdalimngjaaDoorW.PrintLast Go.Proofs.YtlbchdalimngjaaDoor.P
set_option linter.unusedVariables false
set_option linter.unusedSimpArgs false
def bareT (x : Tok) : Tok := ⟨x.f0, x.f1, x.f2, 0⟩
theorem bare_go (l : List Tok) (hl : l.length ≤ 100000) : ∀ (cs : List Tok) (i : Nat) (acc : List Tok), l.drop i = cs → i ≤ l.length → acc.length ≤ i → Ev (fun k => prompterlaw07_bare.l0 k l acc (i : Int)) (acc ++ cs.map bareT)
  | [], i, acc, h, hi, ha => by
    have := List.drop_eq_nil_iff.1 h
    refine Ev.step (f := fun _ => some acc) (fun k => ?_) (by simpa using Ev.now _)
    show prompterlaw07_bare.l0 (k + 1) _ _ _ = _
    rw [prompterlaw07_bare.l0, if_neg (by omega)]
  | x :: cs, i, acc, h, hi, ha => by
    have hlt : i < l.length := by
      rcases Nat.lt_or_ge i l.length with h1 | h1
      · exact h1
      · rw [List.drop_eq_nil_of_le h1] at h; cases h
    have hg : l[i]? = some x := by rw [← List.head?_drop, h]; rfl
    have hd : l.drop (i + 1) = cs := by rw [← List.drop_drop, h]; rfl
    have ih := bare_go l hl cs (i + 1) (acc ++ [bareT x]) hd (by omega) (by rw [List.length_append, List.length_singleton]; omega)
    rw [List.append_assoc, List.singleton_append, ← List.map_cons] at ih
    refine Ev.step (fun k => ?_) ih
    show prompterlaw07_bare.l0 (k + 1) _ _ _ = _
    rw [prompterlaw07_bare.l0, if_pos (by omega), if_pos (by omega), if_pos (by omega), rd_at l i x hg, w64 (by omega) (by omega)]
    rfl
theorem bare_is (l : List Tok) (hl : l.length ≤ 100000) : Ev (fun k => prompterlaw07_bare.f k l) (l.map bareT) := by
  have := bare_go l hl l 0 [] rfl (by omega) (by simp)
  rwa [List.nil_append] at this
theorem same_bare {x : Tok} {t : LTok} (h : Same x t) : bareT t.S = bareT x := by
  obtain ⟨h1, h2, h3⟩ := h
  unfold LTok.S bareT
  dsimp only
  rw [h1, h2, h3]
theorem sames_bare : ∀ {l : List Tok} {m : List LTok}, Sames l m → (m.map LTok.S).map bareT = l.map bareT
  | _, _, .nil => rfl
  | _, _, .cons h hs => by rw [List.map_cons, List.map_cons, List.map_cons, same_bare h, sames_bare hs]
theorem sames_len : ∀ {l : List Tok} {m : List LTok}, Sames l m → m.length = l.length
  | _, _, .nil => rfl
  | _, _, .cons h hs => by rw [List.length_cons, List.length_cons, sames_len hs]
theorem tokenBack_law (l : List Tok) (hx : ∀ x ∈ l, x.f2 ≤ 9223372036854775807) : Ev (fun k => prompterlaw07_TokenBack.f k l) true := by
  unfold prompterlaw07_TokenBack.f
  have wk : Ev (fun k => (prompterlaw07_wakes.f k).bind fun t => some t) true := Ev.bind wakes_is (Ev.now _)
  refine ite_Ev (fun h => wk) (fun h => ?_)
  have hl : l.length ≤ 10000 := by omega
  refine Ev.bind (spell_is l (by omega) hx) ?_
  unfold spellL
  have emp : ByteArray.toList ⟨#[]⟩ = [] := by rw [ByteArray.toList_eq]
  by_cases hr : l.all rightB = true
  · rw [if_pos hr]
    unfold finL
    by_cases hb : 16384 < (joinL true l).length
    · rw [if_pos hb]
      dsimp only
      simp only [show ¬ ((2 : Int) = 0) by decide, show ¬ ((2 : Int) = 3) by decide, if_false, emp, if_true]
      exact wk
    · rw [if_neg hb]
      dsimp only
      simp only [if_true]
      obtain ⟨m, hm, hs⟩ := lx_join l true 0 [] (fun x h => List.all_eq_true.1 hr x h) hx
      rw [List.nil_append, ← lexAll_lx (by omega)] at hm
      have ha := all_is ⟨(joinL true l).toArray⟩
      rw [show (⟨(joinL true l).toArray⟩ : ByteArray).data.toList = joinL true l from rfl, hm, told] at ha
      refine Ev.bind ha ?_
      dsimp only
      simp only [if_true]
      have hml := sames_len hs
      have hb1 := bare_is (m.map LTok.S) (by rw [List.length_map]; omega)
      rw [sames_bare hs] at hb1
      refine Ev.bind hb1 ?_
      refine Ev.bind (bare_is l (by omega)) ?_
      refine Ev.bind (alike_refl (l.map bareT) (by rw [List.length_map]; omega)) ?_
      simp only [if_true]
      exact wk
  · rw [if_neg hr]
    dsimp only
    simp only [show ¬ ((3 : Int) = 0) by decide, if_false, emp, if_true]
    exact wk
end Go.Proofs.YtlbchdalimngjaaDoor.Lex
namespace Go.Proofs.YtlbchdalimngjaaDoor.Pure
open Go.Proofs.YtlbchdalimngjaaDoor.P Go.Proofs.YtlbchdalimngjaaDoorW.PrintWords
theorem TokenBack (l : List S40) (hx : ∀ x ∈ l, x.f2 ≤ 9223372036854775807) : ∃ k, prompterlaw07_TokenBack.f k l = some true := (Lex.tokenBack_law l hx).rounds
end Go.Proofs.YtlbchdalimngjaaDoor.Pure
namespace Go.Proofs.YtlbchdalimngjaaDoor.Read
open Go.ChangeShapes Go.WideShapes Go.RowKit Go.Proofs.YtlbchdalimngjaaDoorW.PrintWords Go.Proofs.YtlbchdalimngjaaDoor.P
set_option linter.unusedVariables false
section
variable {H : Type} {enc : TypeId × Value → H} {P : Program} {w : World} {base : Nat} {spare : Nat → Bool} {held : Bool}
def Reads {α : Type} (enc : TypeId × Value → H) (P : Program) (w : World) (base : Nat) (spare : Nat → Bool) (held : Bool) (e : TypeId) (d : Kd α) (S : α → Prop) : Prop :=
  ∀ (fuel : Nat) (cs : List Value) (x : DataW H × List MemPlace), DataW.trod enc P w base spare held fuel e cs = some x → ∃ a, d.K w a cs ∧ ((∀ n ∈ x.1.weights P e, n ≤ reachBytes) → S a)
theorem weights_all (P : Program) (e : TypeId) : ∀ (l : List (DataW H)) (d : DataW H), d ∈ l → ∀ n ∈ d.weights P e, n ∈ DataW.weightsAll P e l
  | d0 :: l, d, hd, n, hn => by
    simp only [DataW.weightsAll, List.mem_append]
    rcases List.mem_cons.1 hd with rfl | hd
    · exact .inl hn
    · exact .inr (weights_all P e l d hd n hn)
theorem reads_slice {α : Type} [Inhabited α] {t e : TypeId} {d : Kd α} {S : α → Prop} (ht : P.underlying t = some (.slice e)) (hc : P.cellsOf e = d.sz) (hd : Reads enc P w base spare held e d S) {fuel : Nat} {cs : List Value} {x : DataW H × List MemPlace}
    (h : DataW.trod enc P w base spare held fuel t cs = some x) : ∃ (A : Option Addr) (c : Nat) (xs : List α), cs = [.slice A xs.length c] ∧ xs.length ≤ c ∧ d.C w A xs.length xs ∧ ((∀ n ∈ x.1.weights P t, n ≤ reachBytes) → xs.length * P.bytesOf e ≤ reachBytes ∧ ∀ y ∈ xs, S y) := by
  rcases Go.Deep.open_slice ht h with ⟨rfl, rfl⟩ | ⟨a, len, cap, m, n, D, Pl, rfl, hb, hl, hm, hmm, rfl, hi⟩
  · exact ⟨none, 0, [], rfl, Nat.le_refl _, ⟨rfl, by simp, fun h => absurd h (Nat.lt_irrefl 0)⟩, fun _ => ⟨by simp, by simp⟩⟩
  · have hlm : len ≤ m := by rw [hmm]; split <;> omega
    have all : ∀ i, ∃ y : α, i < len → (((∀ n ∈ (D i).weights P e, n ≤ reachBytes) → S y) ∧ ∃ c, c.length = d.sz ∧ d.K w y c ∧ ∀ j u, c[j]? = some u → w.cell? (a.add (i * d.sz + j)) = some u) := by
      intro i
      by_cases h : i < len
      · obtain ⟨cs', hcs, htr⟩ := hi i (by omega)
        obtain ⟨y, hy, hS⟩ := hd _ _ _ htr
        rw [hc] at hcs
        obtain ⟨_, hlen, hat⟩ := World.cells?_some hcs
        refine ⟨y, fun _ => ⟨hS, cs', hlen, hy, fun j u hj => ?_⟩⟩
        have hjl : j < d.sz := by rw [← hlen]; exact (List.getElem?_eq_some_iff.1 hj).1
        have := hat j hjl
        rw [Go.Deep.add_add] at this
        rw [this, hj]
      · exact ⟨default, fun h2 => absurd h2 h⟩
    obtain ⟨f, hf⟩ := Classical.skolem.1 all
    have hln : ((List.range len).map f).length = len := by simp
    refine ⟨some a, cap, (List.range len).map f, by rw [hln], by rw [hln]; exact hl, ?_, fun hw => ⟨?_, fun y hy => ?_⟩⟩
    rw [hln]
    refine ⟨hln, ?_, fun _ => ⟨a, rfl, fun j p hj => ?_⟩⟩
    · have : maxLen = 9223372036854775807 := rfl
      omega
    · rw [List.getElem?_map] at hj
      have hjl : j < len := by
        rcases Nat.lt_or_ge j len with h | h
        · exact h
        · rw [List.getElem?_eq_none (by simpa using h)] at hj; cases hj
      rw [List.getElem?_range hjl] at hj
      obtain rfl := Option.some.inj hj
      exact (hf j hjl).2
    · have := hw ((((List.range len).map D).length + (((List.range (m - len)).map fun j => D (len + j))).length) * P.bytesOf e) (by simp [DataW.weights, ht])
      rw [hln]
      rw [List.length_map, List.length_range] at this
      exact Nat.le_trans (Nat.mul_le_mul_right _ (Nat.le_add_right _ _)) this
    · obtain ⟨i, hi2, rfl⟩ := List.mem_map.1 hy
      have hil : i < len := List.mem_range.1 hi2
      refine (hf i hil).1 (fun n hn => hw n ?_)
      have := weights_all P e ((List.range len).map D) (D i) (List.mem_map.2 ⟨i, hi2, rfl⟩) n hn
      simp [DataW.weights, ht]
      exact .inr (.inl this)
theorem Reads.slice {α : Type} [Inhabited α] {t e : TypeId} {d : Kd α} {S : α → Prop} (ht : P.underlying t = some (.slice e)) (hc : P.cellsOf e = d.sz) (hd : Reads enc P w base spare held e d S) : Reads enc P w base spare held t (Kd.slice e d) (fun xs => xs.length * P.bytesOf e ≤ reachBytes ∧ ∀ y ∈ xs, S y) := by
  intro fuel cs x h
  obtain ⟨A, c, xs, rfl, hl, hC, hS⟩ := reads_slice ht hc hd h
  exact ⟨xs, ⟨A, c, rfl, hl, hC⟩, hS⟩
end
section
variable {H : Type} {enc : TypeId × Value → H} {w : World} {base : Nat} {spare : Nat → Bool} {held : Bool}
instance : Inhabited S47 := ⟨z47⟩
instance : Inhabited S40 := ⟨z40⟩
theorem i64_le {n : Int} (h : (Lit.int .i64 n).wf = true) : n ≤ 9223372036854775807 := by
  simp [Lit.wf, IntKind.max, IntKind.min, IntKind.signed, IntKind.bits] at h
  omega
set_option maxRecDepth 100000 in
theorem reads_token : Reads enc Tryd.prog w base spare held 40 k40 (fun x => x.f2 ≤ 9223372036854775807) := by
  intro fuel cs x h
  obtain ⟨y0, y1, y2, y3, n, _, hl, h0, h1, h2, h3⟩ := Go.Joins.trod_struct4 Tryd.underlying40 h
  have hC : Tryd.prog.cellsOf 40 = 4 := by kernel_rfl
  rw [hC] at hl
  match cs, hl with
  | [c0, c1, c2, c3], _ =>
    have k5 : Tryd.prog.cellsOf 5 = 1 := by kernel_rfl
    have k3 : Tryd.prog.cellsOf 3 = 1 := by kernel_rfl
    have k2 : Tryd.prog.cellsOf 2 = 1 := by kernel_rfl
    have k9 : Tryd.prog.cellsOf 9 = 1 := by kernel_rfl
    dsimp only at h0 h1 h2 h3
    rw [k5] at h0
    rw [k9] at h1
    rw [k2] at h2
    rw [k3] at h3
    obtain ⟨n0, e0, _⟩ := DataW.trod_int Tryd.underlying5 h0
    obtain ⟨s1, e1, _⟩ := DataW.trod_string Tryd.underlying9 h1
    obtain ⟨n2, e2, _, hw⟩ := DataW.trod_int Tryd.underlying2 h2
    obtain ⟨n3, e3, _⟩ := DataW.trod_int Tryd.underlying3 h3
    simp at e0 e1 e2 e3
    subst e0 e1 e2 e3
    exact ⟨⟨n0, s1, n2, n3⟩, k40_mk w ⟨n0, s1, n2, n3⟩, fun _ => i64_le (by simpa using hw)⟩
theorem sized_at {P : Program} {ts : List TypeId} {ds : List (DataW H)} (h : (DataW.weightsEach P (ts ++ []) (ds ++ [])).all (· ≤ reachBytes) = true) {j : Nat} {t : TypeId} {d : DataW H} (ht : ts[j]? = some t) (hd : ds[j]? = some d) : ∀ n ∈ DataW.weights P t d, n ≤ reachBytes := by
  intro n hn
  rw [List.append_nil, List.append_nil] at h
  have := List.all_eq_true.1 h _ (DataW.weights_mem_each ht hd n hn)
  simpa using this
theorem toks_le {l : List S40} {S : S40 → Prop} {n : Nat} (h : n ≤ reachBytes ∧ ∀ y ∈ l, S y) : ∀ y ∈ l, S y := h.2
end
end Go.Proofs.YtlbchdalimngjaaDoor.Read
namespace Go.Proofs.YtlbchdalimngjaaDoor.tokenBack
open Go.ChangeShapes Go.WideShapes Go.ChangeAt Go.RowKit Go.Proofs.YtlbchdalimngjaaDoor.Read Go.Proofs.YtlbchdalimngjaaDoor.P Go.Proofs.YtlbchdalimngjaaDoorW.PrintWords
open Go.ChangeMaps (open_string shut_string)
set_option linter.unusedVariables false
theorem own : ownKnob Tryd.prog.godebug = none := by kernel_rfl
theorem laidOut : laidOutB Tryd.prog = true := by kernel_rfl
theorem gT : Tryd.prog.globalNamed "internal/strconv.uint64pow10" = some 0 := by kernel_rfl
theorem gTType : (Tryd.prog.globals[0]?).map (·.type) = some 137 := by kernel_rfl
theorem lies {W : World} (h : laidMetH Tryd.prog Rows.tokenBackRow.laid W) : P.Laid W := by
  rw [MakeChecks.laidMetH_plain _ _ _ (by kernel_rfl)] at h
  exact Lib.tabIs_of_head gT gTType Tryd.underlying137 Tryd.underlying97 (by kernel_rfl) (by kernel_rfl) (laidMet.tail (laidMet.tail h))
theorem door_met (os : Os) (args : Array Value) : laidMetH Tryd.prog Rows.tokenBackRow.laid ((World.doorLaid Tryd.prog 400 os).forCall (fun _ _ => 0) ⟨#[], args, []⟩).memory :=
  laidMetH_of_parts3 (fuel := 8) (laidMet_of_run' 8 (by kernel_rfl) (by kernel_rfl)) (by kernel_rfl) (by kernel_rfl)
set_option maxRecDepth 100000 in
theorem lifted (os : Os) (started : os.Started) (H : Type) (enc : TypeId × Value → H) :
    ReturnsInHanded {} Tryd.checked os 4 .any (fun w args => (Rows.tokenBackSpec.pre enc Tryd.prog Tryd.f4 [] false w args ∧ laidMetH Tryd.prog Rows.tokenBackRow.laid w) ∧ sizedMet enc Tryd.prog Tryd.f4 (OpenSpec.ofChange Rows.tokenBackSpec) false w args) (Rows.tokenBackSpec.post enc Tryd.prog Tryd.f4 false true false false) := by
  refine returnsInHanded_of_change_and (C := Tryd.checked) (X := fun w _ => laidMetH Tryd.prog Rows.tokenBackRow.laid w) (fun _ _ _ hh h => h.of_heap hh) own started (by kernel_rfl) Tryd.func4
    (ChangeSpec.witness_shaped (enc := enc) (C := Tryd.checked) (os := os) (X := fun w _ => laidMetH Tryd.prog Rows.tokenBackRow.laid w) false (World.doorLaid Tryd.prog 400 os) #[.slice none 0 0] 8 rfl (World.shaped_of_RefB (by kernel_rfl) (by kernel_rfl)) (by kernel_rfl) (by kernel_rfl) (by kernel_rfl) (door_met os _)) ?_
  intro W base args ds gs before hval0 hW hcnd hsz0 hLA _
  have hsz : (DataW.weightsEach Tryd.prog (Tryd.f4.params.toList ++ Rows.tokenBackSpec.plain.varTypes Tryd.prog) (ds ++ gs)).all (· ≤ reachBytes) = true := hsz0
  have hval : ∀ (j : Nat) t v, Tryd.f4.params[j]? = some t → args[j]? = some v → Value.okWide Tryd.prog W .any base t v := hval0
  have hW' := hW
  obtain ⟨p, q, hA0, hV, rfl, hfz, hnd⟩ := hW
  have hA : DataW.TrodAll enc Tryd.prog W 0 (fun _ => true) true Tryd.f4.params.toList args.toList ds p := hA0
  rw [Tryd.params4] at hA hval hsz
  obtain ⟨v0, vs0, d0, ds0, p0, q0, hargs, rfl, rfl, h0, r0⟩ := trodAll_cons hA
  obtain ⟨rfl, rfl, rfl⟩ := trodAll_nil r0
  obtain rfl : args = #[v0] := by cases args; simp_all
  obtain ⟨rfl, rfl⟩ := trodVars_none hV
  have hwt : ∀ (j : Nat) t d, [22][j]? = some t → (d0 :: [])[j]? = some d → ∀ n ∈ DataW.weights Tryd.prog t d, n ≤ reachBytes := fun j t d a b n hn => sized_at hsz a b n hn
  have lt0 : ∀ x ∈ p0, x.block < W.heap.size := by obtain ⟨m, hm⟩ := h0; exact DataW.trod_lt m _ _ _ hm
  have g0 := h0
  obtain ⟨m0, hm0⟩ := h0
  obtain ⟨A0, c0, l0, e0, hc0, hr0, hs0⟩ := reads_slice Tryd.underlying22 (by kernel_rfl) reads_token hm0
  obtain ⟨a0, n0, u0, ev0⟩ := okWide_slice Tryd.underlying22 (hval 0 22 v0 rfl rfl)
  subst ev0
  simp only [Value.cells, List.cons.injEq, Value.slice.injEq, and_true] at e0
  obtain ⟨rfl, rfl, rfl⟩ := e0
  have s0 := hs0 (hwt 0 22 d0 rfl rfl)
  clear hA0 hval0 hsz0 hsz hwt
  obtain ⟨k, hk⟩ := Pure.TokenBack l0 (toks_le s0)
  refine (P.prompterlaw07_TokenBack.calls k _ _ l0 true W (lies hLA) hr0 hc0 hk).mono fun e W' ⟨he, bel⟩ => ?_
  subst he
  exact ⟨_, rfl, _, _, _, [], _, [], hW', trodAll_mk1 (shut_bool Tryd.underlying4 _), (trodAll_cons_mk (Below.trod laidOut (by kernel_rfl) (of_decide_eq_true (by kernel_rfl)) g0 bel lt0) trodAll_mk0), rfl, bel.frame _, fun h => by cases h⟩
theorem over : Rows.tokenBackRow.holds Tryd.pinned (OpenSpec.ofChange Rows.tokenBackSpec) :=
  OpenClaim.holds_of_wide 4 Tryd.f4 rfl rfl rfl rfl rfl rfl rfl ⟨rfl, rfl, rfl, rfl, rfl⟩ rfl rfl rfl rfl rfl (by kernel_rfl) Tryd.func4 (by kernel_rfl)
    (of_decide_eq_true (by kernel_rfl)) (by unfold Func.isWrapper; first | (rw [if_pos (by decide +kernel)]; kernel_rfl) | (rw [if_neg (by decide +kernel)]; exact ⟨rfl, rfl⟩))
    (fun os started H enc _ => lifted os started H enc)
theorem proved : Rows.TokenBackCardSaid :=
  Claim7.holds_tied_plain_at .later [] [.data, .data, .data] true (Rows.tokenBackCard.stood.harness) true over (fun _ h => by cases h) (by kernel_rfl) (fun _ h => by cases h) tokenBack_row_tie rfl ⟨rfl, rfl⟩ (by kernel_rfl) rfl
    (fun f fn hf hfn => by
      obtain rfl : f = 4 := Option.some.inj ((show Tryd.prog.funcNamed "prompter/prompterlaw07.TokenBack" = some 4 by kernel_rfl).symm.trans hf) |>.symm
      obtain rfl : fn = Tryd.f4 := (Option.some.inj (Tryd.func4.symm.trans hfn)).symm
      exact ⟨by kernel_rfl, fun j t ht => by
        rw [Tryd.params4] at ht
        have hm : t ∈ [22] := by simpa using Array.mem_of_getElem? ht
        have hall : ([22].all fun u => !Tryd.prog.wantsStandIn u) = true := by kernel_rfl
        exact (show Tryd.prog.wantsStandIn t = false by simpa using List.all_eq_true.1 hall t hm)⟩)
    (by kernel_rfl)
end Go.Proofs.YtlbchdalimngjaaDoor.tokenBack
namespace Go.Proofs.YtlbchdalimngjaaDoor
theorem tokenBack_holds : Rows.TokenBackCardSaid := tokenBack.proved
end Go.Proofs.YtlbchdalimngjaaDoor
