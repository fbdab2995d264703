/- Proved here: the pure law of TokenAll: token.All and prompterref07.All answer alike (the given statement's own bound on the source's size). -/
import Derived.Test.YtlbchdalimngjaaXRefd
import Derived.Test.YtlbchdalimngjaaXLexd
import Derived.Test.YtlbchdalimngjaaPx26
namespace Go.Proofs.Ytlbchdalimngjaa.Pure
open Go.RowKit Go.Proofs.Ytlbchdalimngjaa.P Go.Proofs.YtlbchdalimngjaaW.PrintWords Go.Proofs.YtlbchdalimngjaaW.PrintLast Go.Proofs.Ytlbchdalimngjaa.Lex
set_option linter.unusedVariables false
set_option linter.unusedSimpArgs false

theorem told_len (cs : List UInt8) : (told (lexAll cs)).1.length ≤ 16384 := by
  cases h : lexAll cs with
  | error pe => simp [told]
  | ok l =>
    simp only [told, List.length_map]
    unfold lexAll at h
    split at h
    · cases h
    · have := (toks_count _ _ _ _ _ h).1
      simp at this
      omega
theorem all_again (s : ByteArray) : ∀ (n i : Nat) (x : List S33), i + n = x.length → x.length ≤ 16384 → Ev (fun k => prompterlaw07_TokenAll.l0 k s x (told (lexAll s.data.toList)).1 (i : Int)) true
  | 0, i, x, h, hx => by
    refine Ev.step (f := fun k => (token_All.f k s).bind fun q => ((prompterlaw07_Alike.f k q.1 (told (lexAll s.data.toList)).1).bind fun t => (if t = true then ((prompterlaw07_wakes.f k).bind fun u => (some u)) else (some false)))) (fun k => ?_) ?_
    · show prompterlaw07_TokenAll.l0 (k + 1) s _ _ _ = _
      rw [prompterlaw07_TokenAll.l0, if_neg (by omega)]
    · refine Ev.bind (all_is s) (Ev.bind (alike_refl _ (by have := told_len s.data.toList; omega)) ?_)
      exact Ev.congr (fun k => if_pos rfl) (Ev.bind wakes_is (Ev.now _))
  | n + 1, i, x, h, hx => by
    refine Ev.step (fun k => ?_) (all_again s n (i + 1) (x.set i ⟨9, ⟨#[]⟩, 0, 0⟩) (by rw [List.length_set]; omega) (by rw [List.length_set]; omega))
    show prompterlaw07_TokenAll.l0 (k + 1) s _ _ _ = _
    rw [prompterlaw07_TokenAll.l0, if_pos (by omega), if_pos (by omega), w64 (by omega) (by omega)]
    rfl
/-- YOURS. -/
theorem TokenAll : prompterlaw07_TokenAll.Pure := by
  intro a0 _
  refine Ev.rounds ?_
  by_cases h0 : (a0.size : Int) > 20000
  · have hl : lexAll a0.data.toList = .error (0, 2) := by
      unfold lexAll
      rw [if_pos (by rw [size_list]; omega)]
    have hall := all_is a0
    rw [hl] at hall
    refine Ev.congr (f := fun k => (token_All.f k a0).bind fun q => (if q.2.1 = 0 then (if q.2.2 = 2 then ((prompterlaw07_wakes.f k).bind fun t => (some t)) else (some false)) else (some false))) (fun k => ?_) (Ev.bind hall ?_)
    · show prompterlaw07_TokenAll.f k a0 = _
      rw [prompterlaw07_TokenAll.f, if_pos h0]
    · exact Ev.congr (fun k => (if_pos rfl).trans (if_pos rfl)) (Ev.bind wakes_is (Ev.now _))
  · refine Ev.congr (f := fun k => (token_All.f k a0).bind fun p => ((prompterref07_All.f k a0).bind fun q => (if p.2.2 = q.2.2 then (if p.2.1 = q.2.1 then ((prompterlaw07_Alike.f k p.1 q.1).bind fun t => (prompterlaw07_TokenAll.j0 k a0 p.1 q.1 (!t))) else (prompterlaw07_TokenAll.j0 k a0 p.1 q.1 true)) else (prompterlaw07_TokenAll.j0 k a0 p.1 q.1 true)))) (fun k => ?_) (Ev.bind (all_is a0) (Ev.bind (refall_is a0) ?_))
    · show prompterlaw07_TokenAll.f k a0 = _
      rw [prompterlaw07_TokenAll.f, if_neg h0]
    · have hlen := told_len a0.data.toList
      refine Ev.congr (f := fun k => (prompterlaw07_Alike.f k (told (lexAll a0.data.toList)).1 (told (lexAll a0.data.toList)).1).bind fun t => (prompterlaw07_TokenAll.j0 k a0 (told (lexAll a0.data.toList)).1 (told (lexAll a0.data.toList)).1 (!t))) (fun k => (if_pos rfl).trans (if_pos rfl)) (Ev.bind (alike_refl _ (by omega)) ?_)
      refine Ev.step (fun k => ?_) (all_again a0 (told (lexAll a0.data.toList)).1.length 0 _ (by omega) hlen)
      show prompterlaw07_TokenAll.j0 (k + 1) a0 _ _ _ = _
      rw [prompterlaw07_TokenAll.j0]
      rfl
end Go.Proofs.Ytlbchdalimngjaa.Pure
