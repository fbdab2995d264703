/- Proved here: what token.All computes is what the lexer over lists of bytes says (no condition). -/
import Derived.Test.YtlbchdalimngjaaXLex
namespace Go.Proofs.Ytlbchdalimngjaa.Lex
open Go.RowKit Go.Proofs.YtlbchdalimngjaaW.PrintWords Go.Proofs.YtlbchdalimngjaaW.PrintLast Go.Proofs.Ytlbchdalimngjaa.P
set_option linter.unusedVariables false
set_option linter.unusedSimpArgs false

theorem ext_is {s : ByteArray} {i : Nat} {l : List UInt8} (h : s.data.toList.drop i = l) (n : Nat) : s.extract i (i + n) = ⟨(l.take n).toArray⟩ := by
  apply ByteArray.ext
  rw [ByteArray.data_extract]
  apply Array.toList_inj.mp
  rw [Array.toList_extract, List.extract_eq_take_drop, h]
  simp
theorem takeWhile_take (p : UInt8 → Bool) (l : List UInt8) : l.take (l.takeWhile p).length = l.takeWhile p := (List.prefix_iff_eq_take.1 (List.takeWhile_prefix p)).symm
theorem takeWhile_le (p : UInt8 → Bool) (l : List UInt8) : (l.takeWhile p).length ≤ l.length := (List.takeWhile_prefix p).length_le
/-- What the walk answers for a step of the lexer at i. -/
def stepTold (i : Int) : Step → Step07
  | .skip n => .skip (i + n)
  | .tok kd tx v n => .tok ⟨kd, ⟨tx.toArray⟩, v, i⟩ (i + n)
  | .bad o e => .bad (i + o) e
theorem text_is (s : ByteArray) (hs : s.size ≤ 16384) (i : Nat) (c : UInt8) (cs : List UInt8) (h : s.data.toList.drop i = c :: cs) : Ev (fun k => token_text.f k s (i : Int)) (textTold i (textGo (cs.length + 1) cs 1 [])) := by
  obtain ⟨hb, hlt, hd⟩ := bt_get h
  have := text_go s hs i (cs.length + 1) cs [] 1 (by omega) hd (by omega) (by simp)
  refine Ev.congr (fun k => ?_) this
  show token_text.f k s (i : Int) = _
  rw [token_text.f, w64 (by omega) (by omega)]
  rfl
theorem index_signs (c : UInt8) : ∃ t, strings_IndexByte.f (⟨#[40, 41, 123, 125, 91, 93, 44, 61, 60, 43, 45, 42, 47, 37, 33]⟩ : ByteArray) (c.toNat : Int) = some t ∧ (t < 0 ↔ c ∉ signs) := by
  refine ⟨_, rfl, ?_⟩
  have e : ((c.toNat : Int)).toNat.toUInt8 = c := by simp
  rw [e]
  have key : ∀ n : Nat, n < 256 → (Lib.indexByte (⟨#[40, 41, 123, 125, 91, 93, 44, 61, 60, 43, 45, 42, 47, 37, 33]⟩ : ByteArray).data.toList (UInt8.ofNat n) < 0 ↔ UInt8.ofNat n ∉ signs) := by decide +kernel
  have := key c.toNat c.toNat_lt
  rwa [show UInt8.ofNat c.toNat = c by simp] at this
theorem index_two (c : UInt8) : ∃ t, strings_IndexByte.f (⟨#[61, 60, 33]⟩ : ByteArray) (c.toNat : Int) = some t ∧ (0 ≤ t ↔ (c.toNat = 61 ∨ c.toNat = 60 ∨ c.toNat = 33)) := by
  refine ⟨_, rfl, ?_⟩
  have e : ((c.toNat : Int)).toNat.toUInt8 = c := by simp
  rw [e]
  have key : ∀ n : Nat, n < 256 → (0 ≤ Lib.indexByte (⟨#[61, 60, 33]⟩ : ByteArray).data.toList (UInt8.ofNat n) ↔ ((UInt8.ofNat n).toNat = 61 ∨ (UInt8.ofNat n).toNat = 60 ∨ (UInt8.ofNat n).toNat = 33)) := by decide +kernel
  have := key c.toNat c.toNat_lt
  rwa [show UInt8.ofNat c.toNat = c by simp] at this
theorem toN (i : Nat) : ((i : Int)).toNat = i := rfl
theorem u8_eq {c : UInt8} {n : Nat} (hn : n < 256) (h : c.toNat = n) : c = UInt8.ofNat n := by rw [← h]; simp
/-- A sign's walk. -/
theorem sg_is (s : ByteArray) (hs : s.size ≤ 16384) (i : Nat) (c : UInt8) (cs : List UInt8) (h : s.data.toList.drop i = c :: cs) (hne : ¬ (c.toNat = 33 ∧ cs.head? ≠ some 61)) :
    token_All.sg s (i : Int) (c.toNat : Int) ((i + 1 : Nat) : Int) = some (stepTold i (sgn c cs)) := by
  obtain ⟨hb, hlt, hd⟩ := bt_get h
  obtain ⟨t, ht, ht2⟩ := index_signs c
  obtain ⟨u, hu, hu2⟩ := index_two c
  unfold token_All.sg sgn
  rw [ht, if_neg hne]
  simp only [Option.bind_some]
  by_cases h1 : c ∉ signs
  · rw [if_pos (ht2.2 h1), if_pos h1]
    simp [stepTold]
  rw [if_neg (fun x => h1 (ht2.1 x)), if_neg h1, hu]
  simp only [Option.bind_some]
  have x1 : s.extract i (i + 1) = ⟨[c].toArray⟩ := by rw [ext_is h 1]; rfl
  have e1 : ((i + 1 : Nat) : Int).toNat = i + 1 := rfl
  rw [toN, e1, x1]
  by_cases h2 : c.toNat = 61 ∨ c.toNat = 60 ∨ c.toNat = 33
  · rw [if_pos (hu2.2 h2)]
    cases cs with
    | nil =>
      have := drop_nil hd
      rw [if_neg this, if_neg (by simp)]
      simp [stepTold]
    | cons d cs =>
      obtain ⟨hb2, hlt2, hd2⟩ := bt_get hd
      have x2 : s.extract i (i + 2) = ⟨[c, d].toArray⟩ := by rw [ext_is h 2]; rfl
      have ew : wrap64 (((i + 1 : Nat) : Int) + 1) = ((i + 2 : Nat) : Int) := by rw [w64 (by omega) (by omega)]; rfl
      have e2 : ((i + 2 : Nat) : Int).toNat = i + 2 := rfl
      rw [if_pos (by omega), hb2, ew, e2, x2]
      by_cases h3 : d.toNat = 61
      · have hd' : d = 61 := u8_eq (by decide) h3
        subst hd'
        rw [if_pos (by rfl), if_pos ⟨h2, by simp⟩]
        simp [stepTold]
      · have hd' : d ≠ 61 := fun e => h3 (by rw [e]; rfl)
        rw [if_neg (by omega), if_neg (by rintro ⟨_, b⟩; simp at b; exact hd' b)]
        simp [stepTold]
  · rw [if_neg (fun x => h2 (hu2.1 x)), if_neg (fun x => h2 x.1)]
    simp [stepTold]
theorem Ev.bindc {α β : Type} {f : Nat → Option α} {g : Nat → α → Option β} {a : α} {r : β} (h1 : Ev f a) (h2 : Ev (fun k => g k a) r) : Ev (fun k => (f k).bind (g k)) r := by
  obtain ⟨n, hn⟩ := h1
  obtain ⟨m, hm⟩ := h2
  refine ⟨max n m, fun k hk => ?_⟩
  show (f k).bind (g k) = some r
  rw [hn k (by omega)]
  exact hm k (by omega)
theorem text_ne {n : Nat} {cs : List UInt8} {o : Nat} {out : List UInt8} : ∀ {x}, textGo n cs o out ≠ .skip x := by
  induction n generalizing cs o out with
  | zero => intro x; simp [textGo]
  | succ n ih =>
    intro x
    cases cs with
    | nil => simp [textGo]
    | cons c cs =>
      rw [textGo]
      split
      · simp
      · split
        · simp
        · split
          · simp
          · exact ih
theorem text_kind {n : Nat} {cs : List UInt8} {o : Nat} {out : List UInt8} : ∀ {kd t v m}, textGo n cs o out = .tok kd t v m → kd = 3 ∧ v = 0 := by
  induction n generalizing cs o out with
  | zero => intro kd t v m h; simp [textGo] at h
  | succ n ih =>
    intro kd t v m h
    cases cs with
    | nil => simp [textGo] at h
    | cons c cs =>
      rw [textGo] at h
      split at h
      · simp at h; exact ⟨h.1.symm, h.2.2.1.symm⟩
      · split at h
        · simp at h
        · split at h
          · simp at h
          · exact ih h
theorem chr_ok {l : List UInt8} {x : UInt8} {m : Nat} (h : chr l = .ok (x, m)) : 1 ≤ m ∧ m ≤ l.length := by
  unfold chr at h
  repeat' split at h
  all_goals first | cases h; done | (simp at h; (obtain ⟨_, rfl⟩ := h); simp)
theorem chr_bad {l : List UInt8} {p e : Nat} (h : chr l = .error (p, e)) : e ≠ 0 ∧ p ≤ l.length := by
  unfold chr at h
  repeat' split at h
  all_goals first | cases h; done | (simp at h; (obtain ⟨rfl, rfl⟩ := h); simp)
theorem text_bad {n : Nat} {cs : List UInt8} {o : Nat} {out : List UInt8} (hn : cs.length < n) : ∀ {p e}, textGo n cs o out = .bad p e → e ≠ 0 := by
  induction n generalizing cs o out with
  | zero => exact absurd hn (Nat.not_lt_zero _)
  | succ n ih =>
    intro p e h
    cases cs with
    | nil => simp [textGo] at h; omega
    | cons c cs =>
      rw [textGo] at h
      by_cases hq : c.toNat = 34
      · rw [if_pos hq] at h; cases h
      rw [if_neg hq] at h
      generalize hc : chr (c :: cs) = q at h
      cases q with
      | error q => cases h; exact (chr_bad hc).1
      | ok q =>
        obtain ⟨x, m⟩ := q
        dsimp only at h
        obtain ⟨h1, h2⟩ := chr_ok hc
        split at h
        · cases h; decide
        · refine ih ?_ h
          simp at hn ⊢
          omega
theorem text_len {n : Nat} {cs : List UInt8} {o : Nat} {out : List UInt8} : ∀ {kd t v m}, textGo n cs o out = .tok kd t v m → o < m ∧ m ≤ o + cs.length := by
  induction n generalizing cs o out with
  | zero => intro kd t v m h; simp [textGo] at h
  | succ n ih =>
    intro kd t v m h
    cases cs with
    | nil => simp [textGo] at h
    | cons c cs =>
      rw [textGo] at h
      by_cases hq : c.toNat = 34
      · rw [if_pos hq] at h; cases h; simp
      rw [if_neg hq] at h
      generalize hc : chr (c :: cs) = q at h
      cases q with
      | error q => cases h
      | ok q =>
        obtain ⟨x, y⟩ := q
        dsimp only at h
        obtain ⟨h1, h2⟩ := chr_ok hc
        split at h
        · cases h
        · obtain ⟨a, b⟩ := ih h
          simp at a b h2 ⊢
          omega
theorem num_kind {cs : List UInt8} {x : Nat} : num cs ≠ .skip x := by
  unfold num
  dsimp only
  repeat' split
  all_goals simp
theorem num_tok {cs : List UInt8} {kd v m : Nat} {t : List UInt8} (h : num cs = .tok kd t v m) : kd = 2 ∧ t = [] ∧ m = (cs.takeWhile isDig).length := by
  unfold num at h
  dsimp only at h
  repeat' split at h
  all_goals first | cases h; done | (cases h; exact ⟨rfl, rfl, rfl⟩)
theorem num_bad {cs : List UInt8} {p e : Nat} (h : num cs = .bad p e) : e ≠ 0 := by
  unfold num at h
  dsimp only at h
  repeat' split at h
  all_goals first | cases h; done | (cases h; decide)
/-- What stands at i, walked. -/
theorem one_is (s : ByteArray) (hs : s.size ≤ 16384) (i : Nat) (c : UInt8) (cs : List UInt8) (h : s.data.toList.drop i = c :: cs) :
    Ev (fun k => token_All.one k s (i : Int) (c.toNat : Int) ((i + 1 : Nat) : Int)) (stepTold i (one (c :: cs))) := by
  obtain ⟨hb, hlt, hd⟩ := bt_get h
  have ew : wrap64 ((i : Int) + 1) = ((i + 1 : Nat) : Int) := w64 (by omega) (by omega)
  rw [one]
  by_cases h1 : c.toNat = 32 ∨ c.toNat = 10
  · rw [if_pos h1]
    refine Ev.congr (fun k => ?_) (Ev.now _)
    show token_All.one k s _ _ _ = _
    unfold token_All.one
    rw [ew]
    by_cases h2 : (c.toNat : Int) = 32
    · rw [if_pos h2]; rfl
    · rw [if_neg h2, if_pos (by omega)]; rfl
  rw [if_neg h1]
  by_cases h2 : c.toNat = 35
  · rw [if_pos h2]
    have := rem_is s hs (c :: cs) i h (by omega)
    rw [List.takeWhile_cons_of_pos (by simp [h2])] at this
    refine Ev.congr (f := fun k => (token_All.rem k s (i : Int)).bind fun j => some (.skip j)) (fun k => ?_) (Ev.bindc this (Ev.congr (fun k => ?_) (Ev.now _)))
    · show token_All.one k s _ _ _ = _
      unfold token_All.one
      rw [if_neg (by omega), if_neg (by omega), if_pos (by omega)]
    · simp only [stepTold, List.length_cons]
      congr 2
      omega
  rw [if_neg h2]
  by_cases h3 : isLow c = true
  · rw [if_pos h3]
    have := wd_is s hs cs (i + 1) hd (by omega)
    have hle := takeWhile_le isInn cs
    have hcl : cs.length + (i + 1) = s.size := by
      have := congrArg List.length hd
      simp at this
      have e : s.data.size = s.size := rfl
      omega
    refine Ev.congr (fun k => ?_) (Ev.bindc (g := fun k j => if wrap64 (j - (i : Int)) > 24 then some (Step07.bad i 2) else if j ≤ (s.size : Int) then (if (i : Int) ≤ j then some (.tok ⟨1, s.extract i j.toNat, 0, i⟩ j) else none) else none) this (Ev.congr (fun k => ?_) (Ev.now _)))
    · show token_All.one k s _ _ _ = _
      unfold token_All.one
      rw [if_neg (by omega), if_neg (by omega), if_neg (by omega), letter_is, h3]
      simp only [Option.bind_some, if_true]
      rfl
    · have e1 : wrap64 (((i + 1 + (cs.takeWhile isInn).length : Nat) : Int) - (i : Int)) = ((1 + (cs.takeWhile isInn).length : Nat) : Int) := by
        rw [w64b (by omega) (by omega)]; omega
      have e2 : ((i + 1 + (cs.takeWhile isInn).length : Nat) : Int).toNat = i + (1 + (cs.takeWhile isInn).length) := by omega
      rw [e1, e2, ext_is h, Nat.add_comm 1, List.take_succ_cons, takeWhile_take]
      by_cases h4 : 24 < (cs.takeWhile isInn).length + 1
      · rw [if_pos (by omega), if_pos h4]; simp [stepTold]
      · rw [if_neg (by omega), if_neg h4, if_pos (by omega), if_pos (by omega)]
        simp only [stepTold]
        congr 2
        omega
  rw [if_neg h3]
  have h3' : isLow c = false := Bool.eq_false_iff.mpr h3
  have skip3 : ∀ k, token_All.one k s (i : Int) (c.toNat : Int) ((i + 1 : Nat) : Int) = (token_digit.f (c.toNat : Int)).bind fun b => if b = true then
    ((token_number.f k s i).bind fun q => if q.2.2.2 = 0 then some (.tok ⟨2, ⟨#[]⟩, q.1, i⟩ q.2.1) else some (.bad q.2.2.1 q.2.2.2)) else
  if (c.toNat : Int) = 34 then ((token_text.f k s i).bind fun q => if q.2.2.2 = 0 then some (.tok ⟨3, q.1, 0, i⟩ q.2.1) else some (.bad q.2.2.1 q.2.2.2)) else
  if (c.toNat : Int) = 33 then (if ((i + 1 : Nat) : Int) = (s.size : Int) then some (.bad ((i + 1 : Nat) : Int) 4) else if ((i + 1 : Nat) : Int) < (s.size : Int) then (if bt s ((i + 1 : Nat) : Int) = 61 then token_All.sg s i c.toNat ((i + 1 : Nat) : Int) else some (.bad ((i + 1 : Nat) : Int) 9)) else none) else
  token_All.sg s i c.toNat ((i + 1 : Nat) : Int) := by
    intro k
    unfold token_All.one
    rw [if_neg (by omega), if_neg (by omega), if_neg (by omega), letter_is, h3']
    simp only [Option.bind_some, Bool.false_eq_true, if_false]
  by_cases h4 : isDig c = true
  · rw [if_pos h4]
    have := number_is s hs i (c :: cs) h (by omega)
    refine Ev.congr (fun k => ?_) (Ev.bindc (g := fun k q => if q.2.2.2 = 0 then some (Step07.tok ⟨2, ⟨#[]⟩, q.1, i⟩ q.2.1) else some (.bad q.2.2.1 q.2.2.2)) this (Ev.congr (fun k => ?_) (Ev.now _)))
    · show token_All.one k s _ _ _ = _
      rw [skip3, digit_is, h4]
      simp only [Option.bind_some, if_true]
    · cases hn : num (c :: cs) with
      | skip x => exact absurd hn num_kind
      | tok kd t v m => obtain ⟨rfl, rfl, hm⟩ := num_tok hn; simp [numTold, stepTold]
      | bad p e => have := num_bad hn; simp [numTold, stepTold, this]
  rw [if_neg h4]
  have h4' : isDig c = false := Bool.eq_false_iff.mpr h4
  have skip4 : ∀ k, token_All.one k s (i : Int) (c.toNat : Int) ((i + 1 : Nat) : Int) =
  if (c.toNat : Int) = 34 then ((token_text.f k s i).bind fun q => if q.2.2.2 = 0 then some (.tok ⟨3, q.1, 0, i⟩ q.2.1) else some (.bad q.2.2.1 q.2.2.2)) else
  if (c.toNat : Int) = 33 then (if ((i + 1 : Nat) : Int) = (s.size : Int) then some (.bad ((i + 1 : Nat) : Int) 4) else if ((i + 1 : Nat) : Int) < (s.size : Int) then (if bt s ((i + 1 : Nat) : Int) = 61 then token_All.sg s i c.toNat ((i + 1 : Nat) : Int) else some (.bad ((i + 1 : Nat) : Int) 9)) else none) else
  token_All.sg s i c.toNat ((i + 1 : Nat) : Int) := by
    intro k
    rw [skip3, digit_is, h4']
    simp only [Option.bind_some, Bool.false_eq_true, if_false]
  clear skip3
  by_cases h5 : c.toNat = 34
  · rw [if_pos h5]
    have := text_is s hs i c cs h
    refine Ev.congr (fun k => ?_) (Ev.bindc (g := fun k q => if q.2.2.2 = 0 then some (Step07.tok ⟨3, q.1, 0, i⟩ q.2.1) else some (.bad q.2.2.1 q.2.2.2)) this (Ev.congr (fun k => ?_) (Ev.now _)))
    · show token_All.one k s _ _ _ = _
      rw [skip4, if_pos (by omega)]
    · rw [List.length_cons]
      cases hn : textGo (cs.length + 1) cs 1 [] with
      | skip x => exact absurd hn text_ne
      | tok kd t v m => obtain ⟨rfl, rfl⟩ := text_kind hn; simp [textTold, stepTold]
      | bad p e => have := text_bad (by omega) hn; simp [textTold, stepTold, this]
  rw [if_neg h5]
  refine Ev.congr (fun k => ?_) (Ev.now _)
  show token_All.one k s _ _ _ = _
  rw [skip4, if_neg (by omega)]
  by_cases h6 : c.toNat = 33
  · rw [if_pos (by omega)]
    cases cs with
    | nil =>
      have hz := size_of_nil hd (by omega)
      rw [if_pos (by omega), sgn, if_pos ⟨h6, by simp⟩, if_pos rfl]
      simp [stepTold]
    | cons d cs =>
      obtain ⟨hb2, hlt2, hd2⟩ := bt_get hd
      rw [if_neg (by omega), if_pos (by omega), hb2]
      by_cases h7 : d.toNat = 61
      · have hd' : d = 61 := u8_eq (by decide) h7
        rw [if_pos (by omega)]
        exact sg_is s hs i c (d :: cs) h (by rw [hd']; simp)
      · rw [if_neg (by omega), sgn, if_pos ⟨h6, by simp; intro e; exact h7 (by rw [e]; rfl)⟩, if_neg (by simp)]
        simp [stepTold]
  · rw [if_neg (by omega)]
    exact sg_is s hs i c cs h (fun x => h6 x.1)
/-- A step takes at least a byte, and no more than there are. -/
theorem one_skip {c : UInt8} {cs : List UInt8} {n : Nat} (h : one (c :: cs) = .skip n) : 1 ≤ n ∧ n ≤ (c :: cs).length := by
  rw [one] at h
  have hle := takeWhile_le (fun d => decide (d.toNat ≠ 10)) cs
  by_cases h1 : c.toNat = 32 ∨ c.toNat = 10
  · rw [if_pos h1] at h; cases h; simp
  rw [if_neg h1] at h
  by_cases h2 : c.toNat = 35
  · rw [if_pos h2] at h; cases h; rw [List.length_cons]; omega
  rw [if_neg h2] at h
  split at h
  · split at h <;> cases h
  split at h
  · exact absurd h num_kind
  split at h
  · exact absurd h text_ne
  unfold sgn at h
  repeat' split at h
  all_goals cases h
theorem one_tok {c : UInt8} {cs : List UInt8} {kd v n : Nat} {t : List UInt8} (h : one (c :: cs) = .tok kd t v n) : 1 ≤ n ∧ n ≤ (c :: cs).length := by
  rw [one] at h
  split at h
  · cases h
  split at h
  · cases h
  split at h
  · have hle := takeWhile_le isInn cs
    split at h
    · cases h
    · cases h; rw [List.length_cons]; omega
  split at h
  · rename_i hd
    obtain ⟨_, _, rfl⟩ := num_tok h
    have hle := takeWhile_le isDig (c :: cs)
    rw [List.takeWhile_cons_of_pos hd, List.length_cons] at hle ⊢
    omega
  split at h
  · obtain ⟨a, b⟩ := text_len h
    rw [List.length_cons]
    omega
  unfold sgn at h
  split at h
  · split at h <;> cases h
  split at h
  · cases h
  split at h
  · rename_i hx
    cases h
    cases cs with
    | nil => simp at hx
    | cons d cs => simp
  · cases h; simp
theorem drop_len {s : ByteArray} {i : Nat} {cs : List UInt8} (h : s.data.toList.drop i = cs) (hi : i ≤ s.size) : i + cs.length = s.size := by
  have := congrArg List.length h
  simp at this
  have e : s.data.size = s.size := rfl
  omega
/-- The whole walk, from i on. -/
theorem all_go (s : ByteArray) (hs : s.size ≤ 16384) : ∀ (n : Nat) (cs : List UInt8) (i : Nat) (acc : List LTok), cs.length < n → s.data.toList.drop i = cs → i ≤ s.size → acc.length ≤ i →
    Ev (fun k => token_All.l0 k s (acc.map LTok.S) (i : Int)) (told (toks n cs i acc))
  | 0, _, _, _, h, _, _, _ => absurd h (Nat.not_lt_zero _)
  | n + 1, [], i, acc, hn, h, hi, ha => by
    refine Ev.step (f := fun _ => some (acc.map LTok.S, 0, 0)) (fun k => ?_) (Ev.now _)
    show token_All.l0 (k + 1) s _ _ = _
    rw [token_All.l0, if_neg (drop_nil h)]
  | n + 1, c :: cs, i, acc, hn, h, hi, ha => by
    obtain ⟨hb, hlt, hd⟩ := bt_get h
    have hsz := drop_len h hi
    refine Ev.step (f := fun k => (token_All.one k s (i : Int) (c.toNat : Int) ((i + 1 : Nat) : Int)).bind fun
      | .skip j => token_All.l0 k s (acc.map LTok.S) j
      | .tok x j => if (acc.map LTok.S).length < 3518437208883 then token_All.l0 k s (acc.map LTok.S ++ [x]) j else none
      | .bad a e => some ([], a, e)) (fun k => ?_) ?_
    · show token_All.l0 (k + 1) s _ _ = _
      rw [token_All.l0, if_pos (by omega), if_pos (by omega), hb, w64 (by omega) (by omega)]
      rfl
    refine Ev.bindc (one_is s hs i c cs h) ?_
    rw [toks]
    cases ho : one (c :: cs) with
    | skip m =>
      obtain ⟨m1, m2⟩ := one_skip ho
      have := all_go s hs n ((c :: cs).drop m) (i + m) acc (by simp at hn m2 ⊢; omega) (by rw [← List.drop_drop, h]) (by omega) (by omega)
      exact this
    | tok kd t v m =>
      obtain ⟨m1, m2⟩ := one_tok ho
      have := all_go s hs n ((c :: cs).drop m) (i + m) (acc ++ [⟨kd, t, v, i⟩]) (by simp at hn m2 ⊢; omega) (by rw [← List.drop_drop, h]) (by omega) (by simp; omega)
      refine Ev.congr (fun k => ?_) this
      simp only [stepTold, List.length_map, List.map_append, List.map_cons, List.map_nil]
      rw [if_pos (by omega)]
      rfl
    | bad p e =>
      exact Ev.now _
/-- token.All answers what the lexer says. -/
theorem all_is (s : ByteArray) : Ev (fun k => token_All.f k s) (told (lexAll s.data.toList)) := by
  have e : s.data.toList.length = s.size := by simp
  unfold lexAll
  rw [e]
  by_cases h : 16384 < s.size
  · rw [if_pos h]
    refine Ev.congr (fun k => ?_) (Ev.now _)
    show token_All.f k s = _
    rw [token_All.f, if_pos (by omega)]
    rfl
  · rw [if_neg h]
    have := all_go s (by omega) (s.size + 1) s.data.toList 0 [] (by omega) (by simp) (by omega) (by simp)
    refine Ev.congr (fun k => ?_) this
    show token_All.f k s = _
    rw [token_All.f, if_neg (by omega)]
    rfl
end Go.Proofs.Ytlbchdalimngjaa.Lex
