/- Proved here: the statement prompterlaw09.ParseGoesOn holds for every input that the row speaks of (no condition of mine). -/
import Derived.Test.YtlbchdalimngjaaRows
import Derived.WalkKit
import Derived.ProofKit
import Derived.OpenShut
import Derived.ShutString
import Derived.ChangeOld
import Derived.Below
import Derived.SizedLaws
import Derived.Test.YtlbchdalimngjaaParseGoesOnh
namespace Go.Proofs.Ytlbchdalimngjaa.P
open Go.RowKit Go.Proofs.YtlbchdalimngjaaW.PrintWords Go.Proofs.YtlbchdalimngjaaW.PrintLast Go.Proofs.YtlbchdalimngjaaW.PrintMore Go.Proofs.Ytlbchdalimngjaa.Lex
attribute [local go_sem] mk_run' mk_events'
set_option linter.unusedVariables false
set_option linter.unusedSimpArgs false
theorem all_inv {k : Nat} {S : Pr (List Twg)} {s : ByteArray} {r : List Twg × Int × Int} (h : allS k S s = some r) : ∃ q, token_All.f k s = some q ∧ ((q.2.2 ≠ 0 ∧ r = ([], q.2.1, q.2.2)) ∨ (q.2.2 = 0 ∧
    ((∃ l', S q.1 false = some (.bad l') ∧ r = ([], (faultA l' (s.size : Int)).1, (faultA l' (s.size : Int)).2)) ∨
     (∃ t x m lg, S q.1 false = some (.ok t (x :: m) lg) ∧ r = ([], x.f3, 9)) ∨
     (∃ t lg c, S q.1 false = some (.ok t [] lg) ∧ tree_Check.f k t = some c ∧ ((lg = true ∧ r = ([], 0, 2)) ∨ (lg = false ∧ c.2 ≠ 0 ∧ r = ([], 0, 2)) ∨ (lg = false ∧ c.2 = 0 ∧ r = (t, 0, 0))))))) := by
  unfold allS at h
  obtain ⟨q, hq, h⟩ := Option.bind_eq_some_iff.1 h
  refine ⟨q, hq, ?_⟩
  by_cases h0 : q.2.2 = 0
  · rw [if_pos h0] at h
    refine .inr ⟨h0, ?_⟩
    unfold wholeS at h
    obtain ⟨res, hr, h⟩ := Option.bind_eq_some_iff.1 h
    cases res with
    | bad l' => exact .inl ⟨l', hr, (Option.some.inj h).symm⟩
    | ok t l' lg =>
      cases l' with
      | cons x m => exact .inr (.inl ⟨t, x, m, lg, hr, (Option.some.inj ((show endS k (s.size : Int) (.ok t (x :: m) lg) = some ([], x.f3, 9) by unfold endS; exact if_pos (by simp)).symm.trans h)).symm⟩)
      | nil =>
        unfold endS at h
        dsimp only at h
        rw [if_neg (by simp)] at h
        obtain ⟨c, hc, h⟩ := Option.bind_eq_some_iff.1 h
        refine .inr (.inr ⟨t, lg, c, hr, hc, ?_⟩)
        cases lg
        · by_cases h1 : c.2 = 0
          · rw [if_neg (by simp), if_pos h1] at h
            exact .inr (.inr ⟨rfl, h1, (Option.some.inj h).symm⟩)
          · rw [if_neg (by simp), if_neg h1] at h
            exact .inr (.inl ⟨rfl, h1, (Option.some.inj h).symm⟩)
        · rw [if_pos rfl] at h
          exact .inl ⟨rfl, (Option.some.inj h).symm⟩
  · rw [if_neg h0] at h
    exact .inl ⟨h0, (Option.some.inj h).symm⟩
def PostW (w : World) (r : List Twg × Int × Int) (e : Ending) (w' : World) : Prop := ∃ v0_ : Value, e = .returned (.tuple #[v0_, .int .i64 r.2.1, .int .i64 r.2.2]) ∧ Kd.R k43 43 w' w.heap.size (fun _ => True) v0_ r.1 ∧ Below w.heap.size w w'
structure Box3 (b : Nat) (W : World) (v4 v5 v6 : Value) : Prop where
  h4 : W.heap[b]? = some (.cells #[v4] 36 (0, 0))
  h5 : W.heap[b + 1]? = some (.cells #[v5] 3 (0, 0))
  h6 : W.heap[b + 1 + 1]? = some (.cells #[v6] 28 (0, 0))
section
variable {b g : Nat} {W W1 : World} {v4 v5 v6 : Value}
theorem Box3.new (w : World) : Box3 w.heap.size (((w.alloc (.cells #[.slice none 0 0] 36 (0, 0))).alloc (.cells #[.int .i64 0] 3 (0, 0))).alloc (.cells #[.int .i64 0] 28 (0, 0))) (.slice none 0 0) (.int .i64 0) (.int .i64 0) := by
  have e1 : ∀ (w : World) (o : Obj), (w.alloc o).heap.size = w.heap.size + 1 := fun w o => by simp
  refine ⟨blk_below (blk_below (blk_new w _) (below_alloc (Below.refl _ _) _)) (below_alloc (Below.refl _ _) _), ?_, ?_⟩
  · have h := blk_below (blk_new (w.alloc (.cells #[.slice none 0 0] 36 (0, 0))) (.cells #[.int .i64 0] 3 (0, 0))) (below_alloc (Below.refl _ _) (.cells #[.int .i64 0] 28 (0, 0)))
    rw [e1] at h
    exact h
  · have h := blk_new ((w.alloc (.cells #[.slice none 0 0] 36 (0, 0))).alloc (.cells #[.int .i64 0] 3 (0, 0))) (.cells #[.int .i64 0] 28 (0, 0))
    rw [e1, e1] at h
    exact h
theorem Box3.below (h : Box3 b W v4 v5 v6) (hb : Below W.heap.size W W1) : Box3 b W1 v4 v5 v6 := ⟨blk_below h.h4 hb, blk_below h.h5 hb, blk_below h.h6 hb⟩
theorem Box3.keep (h : Box3 b W v4 v5 v6) (hk : KeepBut W W1 g none) (hg : b + 3 ≤ g) : Box3 b W1 v4 v5 v6 := ⟨hk.blk h.h4 (by omega) (by simp), hk.blk h.h5 (by omega) (by simp), hk.blk h.h6 (by omega) (by simp)⟩
theorem Box3.set4 (h : Box3 b W v4 v5 v6) (u : Value) : Box3 b (W.setCell ⟨b, 0, none⟩ u) u v5 v6 := ⟨by simpa using blk_set h.h4 0 u, blk_far h.h5 (by show b + 1 ≠ b; omega) _, blk_far h.h6 (by show b + 1 + 1 ≠ b; omega) _⟩
theorem Box3.set5 (h : Box3 b W v4 v5 v6) (u : Value) : Box3 b (W.setCell ⟨b + 1, 0, none⟩ u) v4 u v6 := ⟨blk_far h.h4 (by show b ≠ b + 1; omega) _, by simpa using blk_set h.h5 0 u, blk_far h.h6 (by show b + 1 + 1 ≠ b + 1; omega) _⟩
theorem Box3.set6 (h : Box3 b W v4 v5 v6) (u : Value) : Box3 b (W.setCell ⟨b + 1 + 1, 0, none⟩ u) v4 v5 u := ⟨blk_far h.h4 (by show b ≠ b + 1 + 1; omega) _, blk_far h.h5 (by show b + 1 ≠ b + 1 + 1; omega) _, by simpa using blk_set h.h6 0 u⟩
theorem Box3.lt (h : Box3 b W v4 v5 v6) : b + 3 ≤ W.heap.size := by have := blk_lt h.h6; omega
theorem Box3.c4 (h : Box3 b W v4 v5 v6) : W.cell? ⟨b, 0, none⟩ = some v4 := (blk_cell h.h4 0).trans rfl
theorem Box3.c5 (h : Box3 b W v4 v5 v6) : W.cell? ⟨b + 1, 0, none⟩ = some v5 := (blk_cell h.h5 0).trans rfl
theorem Box3.c6 (h : Box3 b W v4 v5 v6) : W.cell? ⟨b + 1 + 1, 0, none⟩ = some v6 := (blk_cell h.h6 0).trans rfl
theorem Box3.f4 (h : Box3 b W v4 v5 v6) : W.frozen? ⟨b, 0, none⟩ = false := blk_frozen h.h4 0
theorem Box3.f5 (h : Box3 b W v4 v5 v6) : W.frozen? ⟨b + 1, 0, none⟩ = false := blk_frozen h.h5 0
theorem Box3.f6 (h : Box3 b W v4 v5 v6) : W.frozen? ⟨b + 1 + 1, 0, none⟩ = false := blk_frozen h.h6 0
theorem toks_set {base p : Nat} {A : Option Addr} {c : Nat} {l : List Tok} (h : Kd.R k33 33 W base (fun _ => True) (.slice A l.length c) l) (hp : p < base) (u : Value) : Kd.R k33 33 (W.setCell ⟨p, 0, none⟩ u) base (fun _ => True) (.slice A l.length c) l :=
  Kd.R_mono (Kd.R_keep (Kd.R_bound h) ((KeepBut.refl _ p none).set_ 0 u) (fun k hk => by have := hk.2.1; omega)) (fun _ _ => trivial)
theorem twigs_set {base p : Nat} {A : Option Addr} {c : Nat} {l : List Twg} (h : Kd.R k43 43 W base (fun _ => True) (.slice A l.length c) l) (hp : p < base) (u : Value) : Kd.R k43 43 (W.setCell ⟨p, 0, none⟩ u) base (fun _ => True) (.slice A l.length c) l :=
  Kd.R_mono (Kd.R_keep (Kd.R_bound h) ((KeepBut.refl _ p none).set_ 0 u) (fun k hk => by have := hk.2.1; omega)) (fun _ _ => trivial)
theorem twigs_below {base : Nat} {A : Option Addr} {c : Nat} {l : List Twg} (h : Kd.R k43 43 W base (fun _ => True) (.slice A l.length c) l) (hb : Below W.heap.size W W1) (h1 : 1 ≤ base) : Kd.R k43 43 W1 base (fun _ => True) (.slice A l.length c) l :=
  Kd.R_mono (Kd.R_keep (Kd.R_bound h) (KeepBut.of_below hb 0 none) (fun k hk => by have := hk.2.1; omega)) (fun _ _ => trivial)
end
set_option maxHeartbeats 4000000 in
set_option maxRecDepth 100000 in
theorem all_a {k mf : Nat} {S : Pr (List Twg)} {s : ByteArray} {l : List Tok} {at_ er : Int} {w : World} (h : token_All.f k s = some (l, at_, er)) (he : er ≠ 0) :
    Calls Try.prog 56 #[.string s, .func (.func mf) #[] #[]] w (PostW w ([], at_, er)) := by
  have H := Aside0.mk h
  have he1 : (er == 0) = false := by simpa using he
  clear h he
  go_enter_defers Try.func56, Try.ntmps56
  go_upto_region 1 with (fail)
  obtain ⟨b4, hb4⟩ : ∃ b, b = w.heap.size := ⟨_, rfl⟩
  obtain ⟨w1, hw1⟩ : ∃ W : World, W = ((w.alloc (.cells #[.slice none 0 0] 36 (0, 0))).alloc (.cells #[.int .i64 0] 3 (0, 0))).alloc (.cells #[.int .i64 0] 28 (0, 0)) := ⟨_, rfl⟩
  have X1 := Aside0.mk (show Box3 b4 w1 (.slice none 0 0) (.int .i64 0) (.int .i64 0) by rw [hw1, hb4]; exact Box3.new w)
  have B1 := Aside0.mk (show Below w.heap.size w w1 by rw [hw1]; exact below_alloc (below_alloc (below_alloc (Below.refl _ _) _) _) _)
  have E4 := Aside0.mk (show w.heap.size ≤ b4 by omega)
  rw [← hw1, ← hb4]
  clear hw1 hb4
  go_upto_region 2 with (go_at_call 21; (with_reducible refine (token_All.calls k s l at_ er _ H.out).mono ?_); rintro e w2 ⟨v0, rfl, ho, hb⟩; obtain ⟨A2, c2, rfl⟩ := Kd.R_slice ho; have HO := Aside0.mk ho; have X2 := Aside0.mk (X1.out.below hb); have B2 := Aside0.mk (below_step B1.out hb); clear ho hb; have hc5 := X2.out.c5; have hf5 := X2.out.f5; have hc6 := X2.out.c6; have hf6 := X2.out.f6)
  obtain ⟨w3, hw3⟩ : ∃ W : World, W = (w2.setCell ⟨b4 + 1, 0, none⟩ (.int .i64 at_)).setCell ⟨b4 + 1 + 1, 0, none⟩ (.int .i64 er) := ⟨_, rfl⟩
  have X3 := Aside0.mk (show Box3 b4 w3 (.slice none 0 0) (.int .i64 at_) (.int .i64 er) by rw [hw3]; exact (X2.out.set5 _).set6 _)
  have B3 := Aside0.mk (show Below w.heap.size w w3 by rw [hw3]; exact below_set (below_set B2.out (by have := E4.out; omega)) (by have := E4.out; omega))
  have R3 := Aside0.mk (show Kd.C k33 w3 A2 l.length l ∧ l.length ≤ c2 by
    rw [hw3]
    have h := Kd.R_reads' (toks_set (toks_set HO.out (p := b4 + 1) (by have := X1.out.lt; omega) (.int .i64 at_)) (p := b4 + 1 + 1) (by have := X1.out.lt; omega) (.int .i64 er))
    exact ⟨h.2.2, h.2.1⟩)
  rw [← hw3]
  clear hw3 hc5 hf5 hc6 hf6
  have hc5 := X3.out.c5
  have hc6 := X3.out.c6
  have hc4 := X3.out.c4
  have hf5 := X3.out.f5
  have hf6 := X3.out.f6
  have hf4 := X3.out.f4
  go_wp2
  go_region
  obtain ⟨w4, hw4⟩ : ∃ W : World, W = (((w3.setCell ⟨b4, 0, none⟩ (.slice none 0 0)).setCell ⟨b4 + 1, 0, none⟩ (.int .i64 at_)).setCell ⟨b4 + 1 + 1, 0, none⟩ (.int .i64 er)).drew := ⟨_, rfl⟩
  have X4 := Aside0.mk (show Box3 b4 w4 (.slice none 0 0) (.int .i64 at_) (.int .i64 er) by rw [hw4]; exact (((X3.out.set4 _).set5 _).set6 _).below (below_drew1 (Below.refl _ _)))
  have B4 := Aside0.mk (show Below w.heap.size w w4 by rw [hw4]; exact below_drew1 (below_set (below_set (below_set B3.out E4.out) (by have := E4.out; omega)) (by have := E4.out; omega)))
  rw [← hw4]
  clear hw4 hc4 hc5 hc6 hf4 hf5 hf6
  have hc4 := X4.out.c4
  have hc5 := X4.out.c5
  have hc6 := X4.out.c6
  go_wp2
  simp [bodyPostD, Leaves, settle, results, Try.results56, go_sem, hc4, hc5, hc6]
  exact ⟨_, rfl, Kd.R_nil _ _ _ _ _, B4.out⟩
set_option maxHeartbeats 4000000 in
set_option maxRecDepth 100000 in
theorem all_b {k mf : Nat} {S : Pr (List Twg)} {s : ByteArray} {l : List Tok} {at_ er : Int} {w : World} {l' : List Tok} (h : token_All.f k s = some (l, at_, 0)) (hE : Ent Try.prog mf) (hS : Fn_ mf S) (hr : S l false = some (.bad l')) :
    Calls Try.prog 56 #[.string s, .func (.func mf) #[] #[]] w (PostW w ([], (faultA l' (s.size : Int)).1, (faultA l' (s.size : Int)).2)) := by
  have HL := Aside0.mk (all_len h)
  have H := Aside0.mk h
  have HS := Aside0.mk hS
  have HR := Aside0.mk hr
  clear h hr hS
  go_enter_defers Try.func56, Try.ntmps56
  go_upto_region 1 with (fail)
  obtain ⟨b4, hb4⟩ : ∃ b, b = w.heap.size := ⟨_, rfl⟩
  obtain ⟨w1, hw1⟩ : ∃ W : World, W = ((w.alloc (.cells #[.slice none 0 0] 36 (0, 0))).alloc (.cells #[.int .i64 0] 3 (0, 0))).alloc (.cells #[.int .i64 0] 28 (0, 0)) := ⟨_, rfl⟩
  have X1 := Aside0.mk (show Box3 b4 w1 (.slice none 0 0) (.int .i64 0) (.int .i64 0) by rw [hw1, hb4]; exact Box3.new w)
  have B1 := Aside0.mk (show Below w.heap.size w w1 by rw [hw1]; exact below_alloc (below_alloc (below_alloc (Below.refl _ _) _) _) _)
  have E4 := Aside0.mk (show w.heap.size ≤ b4 by omega)
  rw [← hw1, ← hb4]
  clear hw1 hb4
  go_upto_region 2 with (go_at_call 21; (with_reducible refine (token_All.calls k s l at_ 0 _ H.out).mono ?_); rintro e w2 ⟨v0, rfl, ho, hb⟩; obtain ⟨A2, c2, rfl⟩ := Kd.R_slice ho; have HO := Aside0.mk ho; have X2 := Aside0.mk (X1.out.below hb); have B2 := Aside0.mk (below_step B1.out hb); clear ho hb; have hc5 := X2.out.c5; have hf5 := X2.out.f5; have hc6 := X2.out.c6; have hf6 := X2.out.f6)
  obtain ⟨w3, hw3⟩ : ∃ W : World, W = (w2.setCell ⟨b4 + 1, 0, none⟩ (.int .i64 at_)).setCell ⟨b4 + 1 + 1, 0, none⟩ (.int .i64 0) := ⟨_, rfl⟩
  have X3 := Aside0.mk (show Box3 b4 w3 (.slice none 0 0) (.int .i64 at_) (.int .i64 0) by rw [hw3]; exact (X2.out.set5 _).set6 _)
  have B3 := Aside0.mk (show Below w.heap.size w w3 by rw [hw3]; exact below_set (below_set B2.out (by have := E4.out; omega)) (by have := E4.out; omega))
  have R3 := Aside0.mk (show Kd.C k33 w3 A2 l.length l ∧ l.length ≤ c2 by
    rw [hw3]
    have h := Kd.R_reads' (toks_set (toks_set HO.out (p := b4 + 1) (by have := X1.out.lt; omega) (.int .i64 at_)) (p := b4 + 1 + 1) (by have := X1.out.lt; omega) (.int .i64 0))
    exact ⟨h.2.2, h.2.1⟩)
  rw [← hw3]
  clear hw3 hc5 hf5 hc6 hf6
  have hc6 := X3.out.c6
  go_upto_region 6 with (fail)
  obtain ⟨g, hg⟩ : ∃ g, g = w3.heap.size := ⟨_, rfl⟩
  obtain ⟨w5, hw5⟩ : ∃ W : World, W = w3.alloc (.cells #[.slice A2 l.length c2, .int .i64 (s.size : Int), .bool false] 91 (0, 0)) := ⟨_, rfl⟩
  have X5 := Aside0.mk (show Box3 b4 w5 (.slice none 0 0) (.int .i64 at_) (.int .i64 0) by rw [hw5]; exact X3.out.below (below_alloc (Below.refl _ _) _))
  have B5 := Aside0.mk (show Below w.heap.size w w5 by rw [hw5]; exact below_alloc B3.out _)
  have B35 := Aside0.mk (show Below w3.heap.size w3 w5 by rw [hw5]; exact below_alloc (Below.refl _ _) _)
  have I5 := Aside0.mk (show IsRd w3 w5 g l (s.size : Int) false by rw [hw5, hg]; exact ⟨A2, c2, blk_new _ _, Nat.le_refl _, R3.out.2, R3.out.1⟩)
  have G5 := Aside0.mk (show b4 + 3 ≤ g by have := X3.out.lt; omega)
  rw [← hw5, ← hg]
  clear hw5 hg hc6
  have hent : ∀ (args : Array Value) (w : World), Sem.run Try.prog (callFunc mf args) w = .ok (.enter mf args) w := hE
  go_wp2_with (first | ((with_reducible refine (fn_at HS.out HR.out (by have := HL.out; omega) I5.out B35.out).mono ?_); rintro e w6 ⟨rfl, hb⟩; have B6 := Aside0.mk hb; clear hb))
  have X6 := X3.out.below B6.out
  have hfa : faultC l' (s.size : Int) = [{ v := .iface 88 (.agg #[.int .i64 (faultA l' (s.size : Int)).1, .int .i64 (faultA l' (s.size : Int)).2]), recovered := false }] := by cases l' <;> rfl
  rw [hfa]
  refine leaves_cons (f := 78) (args := #[.pointer (some ⟨b4, 0, none⟩), .pointer (some ⟨b4 + 1, 0, none⟩), .pointer (some ⟨b4 + 1 + 1, 0, none⟩)]) (by simp) (by simp [go_sem]) ?_
  refine (catch_pan (n := w.heap.size) _ _ [] _ E4.out (by have := E4.out; omega) (by have := E4.out; omega) (by omega) (by omega) (by omega) X6.h4 X6.h5 X6.h6).mono ?_
  rintro e u' w9 ⟨rfl, rfl, f4, f5, f6, hb⟩
  simp [Leaves, settle, results, Try.results56, go_sem, f4, f5, f6]
  exact ⟨_, rfl, Kd.R_nil _ _ _ _ _, below_weaken (below_step B3.out B6.out) (Nat.le_refl _) hb⟩
set_option maxHeartbeats 4000000 in
set_option maxRecDepth 100000 in
theorem all_c {k mf : Nat} {S : Pr (List Twg)} {s : ByteArray} {l : List Tok} {at_ er : Int} {w : World} {t : List Twg} {x : Tok} {m : List Tok} {lg : Bool} (h : token_All.f k s = some (l, at_, 0)) (hE : Ent Try.prog mf) (hS : Fn_ mf S) (hr : S l false = some (.ok t (x :: m) lg)) :
    Calls Try.prog 56 #[.string s, .func (.func mf) #[] #[]] w (PostW w ([], x.f3, 9)) := by
  have HL := Aside0.mk (all_len h)
  have H := Aside0.mk h
  have HS := Aside0.mk hS
  have HR := Aside0.mk hr
  clear h hr hS
  go_enter_defers Try.func56, Try.ntmps56
  go_upto_region 1 with (fail)
  obtain ⟨b4, hb4⟩ : ∃ b, b = w.heap.size := ⟨_, rfl⟩
  obtain ⟨w1, hw1⟩ : ∃ W : World, W = ((w.alloc (.cells #[.slice none 0 0] 36 (0, 0))).alloc (.cells #[.int .i64 0] 3 (0, 0))).alloc (.cells #[.int .i64 0] 28 (0, 0)) := ⟨_, rfl⟩
  have X1 := Aside0.mk (show Box3 b4 w1 (.slice none 0 0) (.int .i64 0) (.int .i64 0) by rw [hw1, hb4]; exact Box3.new w)
  have B1 := Aside0.mk (show Below w.heap.size w w1 by rw [hw1]; exact below_alloc (below_alloc (below_alloc (Below.refl _ _) _) _) _)
  have E4 := Aside0.mk (show w.heap.size ≤ b4 by omega)
  rw [← hw1, ← hb4]
  clear hw1 hb4
  go_upto_region 2 with (go_at_call 21; (with_reducible refine (token_All.calls k s l at_ 0 _ H.out).mono ?_); rintro e w2 ⟨v0, rfl, ho, hb⟩; obtain ⟨A2, c2, rfl⟩ := Kd.R_slice ho; have HO := Aside0.mk ho; have X2 := Aside0.mk (X1.out.below hb); have B2 := Aside0.mk (below_step B1.out hb); clear ho hb; have hc5 := X2.out.c5; have hf5 := X2.out.f5; have hc6 := X2.out.c6; have hf6 := X2.out.f6)
  obtain ⟨w3, hw3⟩ : ∃ W : World, W = (w2.setCell ⟨b4 + 1, 0, none⟩ (.int .i64 at_)).setCell ⟨b4 + 1 + 1, 0, none⟩ (.int .i64 0) := ⟨_, rfl⟩
  have X3 := Aside0.mk (show Box3 b4 w3 (.slice none 0 0) (.int .i64 at_) (.int .i64 0) by rw [hw3]; exact (X2.out.set5 _).set6 _)
  have B3 := Aside0.mk (show Below w.heap.size w w3 by rw [hw3]; exact below_set (below_set B2.out (by have := E4.out; omega)) (by have := E4.out; omega))
  have R3 := Aside0.mk (show Kd.C k33 w3 A2 l.length l ∧ l.length ≤ c2 by
    rw [hw3]
    have h := Kd.R_reads' (toks_set (toks_set HO.out (p := b4 + 1) (by have := X1.out.lt; omega) (.int .i64 at_)) (p := b4 + 1 + 1) (by have := X1.out.lt; omega) (.int .i64 0))
    exact ⟨h.2.2, h.2.1⟩)
  rw [← hw3]
  clear hw3 hc5 hf5 hc6 hf6
  have hc6 := X3.out.c6
  go_upto_region 6 with (fail)
  obtain ⟨g, hg⟩ : ∃ g, g = w3.heap.size := ⟨_, rfl⟩
  obtain ⟨w5, hw5⟩ : ∃ W : World, W = w3.alloc (.cells #[.slice A2 l.length c2, .int .i64 (s.size : Int), .bool false] 91 (0, 0)) := ⟨_, rfl⟩
  have X5 := Aside0.mk (show Box3 b4 w5 (.slice none 0 0) (.int .i64 at_) (.int .i64 0) by rw [hw5]; exact X3.out.below (below_alloc (Below.refl _ _) _))
  have B5 := Aside0.mk (show Below w.heap.size w w5 by rw [hw5]; exact below_alloc B3.out _)
  have B35 := Aside0.mk (show Below w3.heap.size w3 w5 by rw [hw5]; exact below_alloc (Below.refl _ _) _)
  have I5 := Aside0.mk (show IsRd w3 w5 g l (s.size : Int) false by rw [hw5, hg]; exact ⟨A2, c2, blk_new _ _, Nat.le_refl _, R3.out.2, R3.out.1⟩)
  have G5 := Aside0.mk (show b4 + 3 ≤ g by have := X3.out.lt; omega)
  rw [← hw5, ← hg]
  clear hw5 hg hc6
  have hent : ∀ (args : Array Value) (w : World), Sem.run Try.prog (callFunc mf args) w = .ok (.enter mf args) w := hE
  go_upto_region 7 with (first | ((with_reducible refine (fn_at HS.out HR.out (by have := HL.out; omega) I5.out B35.out).mono ?_); rintro e w6 ⟨A6, c6, rfl, ht, hk⟩; have T6 := Aside0.mk ht; have K6 := Aside0.mk hk; clear ht hk; have X6 := Aside0.mk (X5.out.keep K6.out.k G5.out); have hc4 := X6.out.c4; have hf4 := X6.out.f4))
  obtain ⟨w7, hw7⟩ : ∃ W : World, W = w6.setCell ⟨b4, 0, none⟩ (.slice A6 t.length c6) := ⟨_, rfl⟩
  have X7 := Aside0.mk (show Box3 b4 w7 (.slice A6 t.length c6) (.int .i64 at_) (.int .i64 0) by rw [hw7]; exact X6.out.set4 _)
  have B7 := Aside0.mk (show Below w.heap.size w w7 by rw [hw7]; exact below_set (below_step B3.out K6.out.b) E4.out)
  obtain ⟨A8, c8, hbq, _, _, hq3⟩ := K6.out.i
  obtain ⟨ad, rfl, _, _, _, p3⟩ := rd_head hq3
  have hne : ad.block ≠ b4 := by
    intro h
    have h2 := (blk_cell X3.out.h4 (ad.off + 3))
    rw [← h, p3] at h2
    simp at h2
  have q3 : w7.cell? ⟨ad.block, ad.off + 3, none⟩ = some (.int .i64 x.f3) := by
    have hab : (⟨b4, 0, none⟩ : Addr) ≠ ⟨ad.block, ad.off + 3, none⟩ := fun h => hne (congrArg Addr.block h).symm
    rw [hw7, World.cell?_setCell_other _ _ _ _ hab]
    exact pw_cell_below K6.out.b p3
  have hg7 := blk_far hbq (p := ⟨b4, 0, none⟩) (by have := G5.out; show g ≠ b4; omega) (.slice A6 t.length c6)
  rw [← hw7] at hg7 ⊢
  have hq0 : w7.cell? ⟨g, 0, none⟩ = some (.slice (some ad) (x :: m).length c8) := (blk_cell hg7 0).trans rfl
  have HF := Aside0.mk (fault_at (size := (s.size : Int)) hq0 q3)
  have hl7 : decide ((0 : Int) < ((m.length + 1 : Nat) : Int)) = true := decide_eq_true (by omega)
  have hl8 : decide (0 < m.length + 1) = true := decide_eq_true (by omega)
  clear hw7 hg7 hne p3 hq3 hbq hc4 hf4 q3
  go_wp2_with (first | (go_at_call 79; (with_reducible refine HF.out.mono ?_); rintro e w' ⟨rfl, rfl⟩))
  have X6 := X7.out
  have hfa : faultC (x :: m) (s.size : Int) = [{ v := .iface 88 (.agg #[.int .i64 x.f3, .int .i64 9]), recovered := false }] := rfl
  rw [hfa]
  refine leaves_cons (f := 78) (args := #[.pointer (some ⟨b4, 0, none⟩), .pointer (some ⟨b4 + 1, 0, none⟩), .pointer (some ⟨b4 + 1 + 1, 0, none⟩)]) (by simp) (by simp [go_sem]) ?_
  refine (catch_pan (n := w.heap.size) _ _ [] _ E4.out (by have := E4.out; omega) (by have := E4.out; omega) (by omega) (by omega) (by omega) X6.h4 X6.h5 X6.h6).mono ?_
  rintro e u' w9 ⟨rfl, rfl, f4, f5, f6, hb⟩
  simp [Leaves, settle, results, Try.results56, go_sem, f4, f5, f6]
  exact ⟨_, rfl, Kd.R_nil _ _ _ _ _, below_weaken B7.out (Nat.le_refl _) hb⟩
set_option maxHeartbeats 4000000 in
set_option maxRecDepth 100000 in
theorem all_d {k mf : Nat} {S : Pr (List Twg)} {s : ByteArray} {l : List Tok} {at_ er : Int} {w : World} {t : List Twg} {c : Int × Int} (h : token_All.f k s = some (l, at_, 0)) (hE : Ent Try.prog mf) (hS : Fn_ mf S) (hr : S l false = some (.ok t [] true)) (hK : tree_Check.f k t = some c) :
    Calls Try.prog 56 #[.string s, .func (.func mf) #[] #[]] w (PostW w ([], 0, 2)) := by
  have HL := Aside0.mk (all_len h)
  have H := Aside0.mk h
  have HS := Aside0.mk hS
  have HR := Aside0.mk hr
  clear h hr hS
  have HK := Aside0.mk hK
  clear hK
  go_enter_defers Try.func56, Try.ntmps56
  go_upto_region 1 with (fail)
  obtain ⟨b4, hb4⟩ : ∃ b, b = w.heap.size := ⟨_, rfl⟩
  obtain ⟨w1, hw1⟩ : ∃ W : World, W = ((w.alloc (.cells #[.slice none 0 0] 36 (0, 0))).alloc (.cells #[.int .i64 0] 3 (0, 0))).alloc (.cells #[.int .i64 0] 28 (0, 0)) := ⟨_, rfl⟩
  have X1 := Aside0.mk (show Box3 b4 w1 (.slice none 0 0) (.int .i64 0) (.int .i64 0) by rw [hw1, hb4]; exact Box3.new w)
  have B1 := Aside0.mk (show Below w.heap.size w w1 by rw [hw1]; exact below_alloc (below_alloc (below_alloc (Below.refl _ _) _) _) _)
  have E4 := Aside0.mk (show w.heap.size ≤ b4 by omega)
  rw [← hw1, ← hb4]
  clear hw1 hb4
  go_upto_region 2 with (go_at_call 21; (with_reducible refine (token_All.calls k s l at_ 0 _ H.out).mono ?_); rintro e w2 ⟨v0, rfl, ho, hb⟩; obtain ⟨A2, c2, rfl⟩ := Kd.R_slice ho; have HO := Aside0.mk ho; have X2 := Aside0.mk (X1.out.below hb); have B2 := Aside0.mk (below_step B1.out hb); clear ho hb; have hc5 := X2.out.c5; have hf5 := X2.out.f5; have hc6 := X2.out.c6; have hf6 := X2.out.f6)
  obtain ⟨w3, hw3⟩ : ∃ W : World, W = (w2.setCell ⟨b4 + 1, 0, none⟩ (.int .i64 at_)).setCell ⟨b4 + 1 + 1, 0, none⟩ (.int .i64 0) := ⟨_, rfl⟩
  have X3 := Aside0.mk (show Box3 b4 w3 (.slice none 0 0) (.int .i64 at_) (.int .i64 0) by rw [hw3]; exact (X2.out.set5 _).set6 _)
  have B3 := Aside0.mk (show Below w.heap.size w w3 by rw [hw3]; exact below_set (below_set B2.out (by have := E4.out; omega)) (by have := E4.out; omega))
  have R3 := Aside0.mk (show Kd.C k33 w3 A2 l.length l ∧ l.length ≤ c2 by
    rw [hw3]
    have h := Kd.R_reads' (toks_set (toks_set HO.out (p := b4 + 1) (by have := X1.out.lt; omega) (.int .i64 at_)) (p := b4 + 1 + 1) (by have := X1.out.lt; omega) (.int .i64 0))
    exact ⟨h.2.2, h.2.1⟩)
  rw [← hw3]
  clear hw3 hc5 hf5 hc6 hf6
  have hc6 := X3.out.c6
  go_upto_region 6 with (fail)
  obtain ⟨g, hg⟩ : ∃ g, g = w3.heap.size := ⟨_, rfl⟩
  obtain ⟨w5, hw5⟩ : ∃ W : World, W = w3.alloc (.cells #[.slice A2 l.length c2, .int .i64 (s.size : Int), .bool false] 91 (0, 0)) := ⟨_, rfl⟩
  have X5 := Aside0.mk (show Box3 b4 w5 (.slice none 0 0) (.int .i64 at_) (.int .i64 0) by rw [hw5]; exact X3.out.below (below_alloc (Below.refl _ _) _))
  have B5 := Aside0.mk (show Below w.heap.size w w5 by rw [hw5]; exact below_alloc B3.out _)
  have B35 := Aside0.mk (show Below w3.heap.size w3 w5 by rw [hw5]; exact below_alloc (Below.refl _ _) _)
  have I5 := Aside0.mk (show IsRd w3 w5 g l (s.size : Int) false by rw [hw5, hg]; exact ⟨A2, c2, blk_new _ _, Nat.le_refl _, R3.out.2, R3.out.1⟩)
  have G5 := Aside0.mk (show b4 + 3 ≤ g by have := X3.out.lt; omega)
  rw [← hw5, ← hg]
  clear hw5 hg hc6
  have hent : ∀ (args : Array Value) (w : World), Sem.run Try.prog (callFunc mf args) w = .ok (.enter mf args) w := hE
  go_upto_region 7 with (first | ((with_reducible refine (fn_at HS.out HR.out (by have := HL.out; omega) I5.out B35.out).mono ?_); rintro e w6 ⟨A6, c6, rfl, ht, hk⟩; have T6 := Aside0.mk ht; have K6 := Aside0.mk hk; clear ht hk; have X6 := Aside0.mk (X5.out.keep K6.out.k G5.out); have hc4 := X6.out.c4; have hf4 := X6.out.f4))
  obtain ⟨w7, hw7⟩ : ∃ W : World, W = w6.setCell ⟨b4, 0, none⟩ (.slice A6 t.length c6) := ⟨_, rfl⟩
  have X7 := Aside0.mk (show Box3 b4 w7 (.slice A6 t.length c6) (.int .i64 at_) (.int .i64 0) by rw [hw7]; exact X6.out.set4 _)
  have B7 := Aside0.mk (show Below w.heap.size w w7 by rw [hw7]; exact below_set (below_step B3.out K6.out.b) E4.out)
  obtain ⟨A8, c8, hbq, _, _, _⟩ := K6.out.i
  have hg7 := blk_far hbq (p := ⟨b4, 0, none⟩) (by have := G5.out; show g ≠ b4; omega) (.slice A6 t.length c6)
  have T7 := Aside0.mk (show Kd.R k43 43 w7 w5.heap.size (fun _ => True) (.slice A6 t.length c6) t by rw [hw7]; exact twigs_set T6.out.1 (by have := X5.out.lt; omega) _)
  rw [← hw7] at hg7 ⊢
  have hq0 : w7.cell? ⟨g, 0, none⟩ = some (.slice A8 0 c8) := (blk_cell hg7 0).trans rfl
  have hc7 : w7.cell? ⟨b4, 0, none⟩ = some (.slice A6 t.length c6) := X7.out.c4
  have GG := Aside0.mk hg7
  clear hw7 hg7 hbq hc4 hf4
  go_upto_region 10 with (first | (go_at_call 32; (with_reducible refine (tree_Check.calls k A6 c6 t _ _ _ (Kd.R_reads' T7.out).2.2 (Kd.R_reads' T7.out).2.1 HK.out).mono ?_); rintro e w8 ⟨rfl, hb⟩; have B8 := Aside0.mk hb; clear hb))
  have hg8 := blk_below GG.out B8.out
  have hq2 : w8.cell? ⟨g, 2, none⟩ = some (.bool true) := (blk_cell hg8 2).trans rfl
  have X8 := Aside0.mk (X7.out.below B8.out)
  have T8 := Aside0.mk (twigs_below T7.out B8.out (by have := X5.out.lt; omega))
  have hc4 := X8.out.c4
  have hf4 := X8.out.f4
  have hc5 := X8.out.c5
  have hf5 := X8.out.f5
  have hc6 := X8.out.c6
  have hf6 := X8.out.f6
  clear hq0 hc7 hg8
  go_wp2
  obtain ⟨w9, hw9⟩ : ∃ W : World, W = ((w8.setCell ⟨b4, 0, none⟩ (.slice none 0 0)).setCell ⟨b4 + 1, 0, none⟩ (.int .i64 0)).setCell ⟨b4 + 1 + 1, 0, none⟩ (.int .i64 2) := ⟨_, rfl⟩
  have X9 := (show Box3 b4 w9 (.slice none 0 0) (.int .i64 0) (.int .i64 2) by rw [hw9]; exact ((X8.out.set4 _).set5 _).set6 _)
  have B9 := (show Below w.heap.size w w9 by rw [hw9]; exact below_set (below_set (below_set (below_step B7.out B8.out) E4.out) (by have := E4.out; omega)) (by have := E4.out; omega))
  rw [← hw9]
  clear hw9 hc4 hc5 hc6 hf4 hf5 hf6
  have hc4 := X9.c4
  have hc5 := X9.c5
  have hc6 := X9.c6
  refine leaves_cons (f := 78) (args := #[.pointer (some ⟨b4, 0, none⟩), .pointer (some ⟨b4 + 1, 0, none⟩), .pointer (some ⟨b4 + 1 + 1, 0, none⟩)]) (by simp) (by simp [go_sem]) ?_
  refine (catch_idle _ _ _ _).mono ?_
  rintro e u' w10 ⟨rfl, rfl, rfl⟩
  simp [Leaves, settle, results, Try.results56, go_sem, hc4, hc5, hc6]
  exact ⟨_, rfl, Kd.R_nil _ _ _ _ _, B9⟩
set_option maxHeartbeats 4000000 in
set_option maxRecDepth 100000 in
theorem all_e {k mf : Nat} {S : Pr (List Twg)} {s : ByteArray} {l : List Tok} {at_ er : Int} {w : World} {t : List Twg} {c : Int × Int} (h : token_All.f k s = some (l, at_, 0)) (hE : Ent Try.prog mf) (hS : Fn_ mf S) (hr : S l false = some (.ok t [] false)) (hK : tree_Check.f k t = some c) (h0 : c.2 ≠ 0) :
    Calls Try.prog 56 #[.string s, .func (.func mf) #[] #[]] w (PostW w ([], 0, 2)) := by
  have HL := Aside0.mk (all_len h)
  have H := Aside0.mk h
  have HS := Aside0.mk hS
  have HR := Aside0.mk hr
  clear h hr hS
  have HK := Aside0.mk hK
  clear hK
  have hc1 : (c.2 == 0) = false := by simpa using h0
  clear h0
  go_enter_defers Try.func56, Try.ntmps56
  go_upto_region 1 with (fail)
  obtain ⟨b4, hb4⟩ : ∃ b, b = w.heap.size := ⟨_, rfl⟩
  obtain ⟨w1, hw1⟩ : ∃ W : World, W = ((w.alloc (.cells #[.slice none 0 0] 36 (0, 0))).alloc (.cells #[.int .i64 0] 3 (0, 0))).alloc (.cells #[.int .i64 0] 28 (0, 0)) := ⟨_, rfl⟩
  have X1 := Aside0.mk (show Box3 b4 w1 (.slice none 0 0) (.int .i64 0) (.int .i64 0) by rw [hw1, hb4]; exact Box3.new w)
  have B1 := Aside0.mk (show Below w.heap.size w w1 by rw [hw1]; exact below_alloc (below_alloc (below_alloc (Below.refl _ _) _) _) _)
  have E4 := Aside0.mk (show w.heap.size ≤ b4 by omega)
  rw [← hw1, ← hb4]
  clear hw1 hb4
  go_upto_region 2 with (go_at_call 21; (with_reducible refine (token_All.calls k s l at_ 0 _ H.out).mono ?_); rintro e w2 ⟨v0, rfl, ho, hb⟩; obtain ⟨A2, c2, rfl⟩ := Kd.R_slice ho; have HO := Aside0.mk ho; have X2 := Aside0.mk (X1.out.below hb); have B2 := Aside0.mk (below_step B1.out hb); clear ho hb; have hc5 := X2.out.c5; have hf5 := X2.out.f5; have hc6 := X2.out.c6; have hf6 := X2.out.f6)
  obtain ⟨w3, hw3⟩ : ∃ W : World, W = (w2.setCell ⟨b4 + 1, 0, none⟩ (.int .i64 at_)).setCell ⟨b4 + 1 + 1, 0, none⟩ (.int .i64 0) := ⟨_, rfl⟩
  have X3 := Aside0.mk (show Box3 b4 w3 (.slice none 0 0) (.int .i64 at_) (.int .i64 0) by rw [hw3]; exact (X2.out.set5 _).set6 _)
  have B3 := Aside0.mk (show Below w.heap.size w w3 by rw [hw3]; exact below_set (below_set B2.out (by have := E4.out; omega)) (by have := E4.out; omega))
  have R3 := Aside0.mk (show Kd.C k33 w3 A2 l.length l ∧ l.length ≤ c2 by
    rw [hw3]
    have h := Kd.R_reads' (toks_set (toks_set HO.out (p := b4 + 1) (by have := X1.out.lt; omega) (.int .i64 at_)) (p := b4 + 1 + 1) (by have := X1.out.lt; omega) (.int .i64 0))
    exact ⟨h.2.2, h.2.1⟩)
  rw [← hw3]
  clear hw3 hc5 hf5 hc6 hf6
  have hc6 := X3.out.c6
  go_upto_region 6 with (fail)
  obtain ⟨g, hg⟩ : ∃ g, g = w3.heap.size := ⟨_, rfl⟩
  obtain ⟨w5, hw5⟩ : ∃ W : World, W = w3.alloc (.cells #[.slice A2 l.length c2, .int .i64 (s.size : Int), .bool false] 91 (0, 0)) := ⟨_, rfl⟩
  have X5 := Aside0.mk (show Box3 b4 w5 (.slice none 0 0) (.int .i64 at_) (.int .i64 0) by rw [hw5]; exact X3.out.below (below_alloc (Below.refl _ _) _))
  have B5 := Aside0.mk (show Below w.heap.size w w5 by rw [hw5]; exact below_alloc B3.out _)
  have B35 := Aside0.mk (show Below w3.heap.size w3 w5 by rw [hw5]; exact below_alloc (Below.refl _ _) _)
  have I5 := Aside0.mk (show IsRd w3 w5 g l (s.size : Int) false by rw [hw5, hg]; exact ⟨A2, c2, blk_new _ _, Nat.le_refl _, R3.out.2, R3.out.1⟩)
  have G5 := Aside0.mk (show b4 + 3 ≤ g by have := X3.out.lt; omega)
  rw [← hw5, ← hg]
  clear hw5 hg hc6
  have hent : ∀ (args : Array Value) (w : World), Sem.run Try.prog (callFunc mf args) w = .ok (.enter mf args) w := hE
  go_upto_region 7 with (first | ((with_reducible refine (fn_at HS.out HR.out (by have := HL.out; omega) I5.out B35.out).mono ?_); rintro e w6 ⟨A6, c6, rfl, ht, hk⟩; have T6 := Aside0.mk ht; have K6 := Aside0.mk hk; clear ht hk; have X6 := Aside0.mk (X5.out.keep K6.out.k G5.out); have hc4 := X6.out.c4; have hf4 := X6.out.f4))
  obtain ⟨w7, hw7⟩ : ∃ W : World, W = w6.setCell ⟨b4, 0, none⟩ (.slice A6 t.length c6) := ⟨_, rfl⟩
  have X7 := Aside0.mk (show Box3 b4 w7 (.slice A6 t.length c6) (.int .i64 at_) (.int .i64 0) by rw [hw7]; exact X6.out.set4 _)
  have B7 := Aside0.mk (show Below w.heap.size w w7 by rw [hw7]; exact below_set (below_step B3.out K6.out.b) E4.out)
  obtain ⟨A8, c8, hbq, _, _, _⟩ := K6.out.i
  have hg7 := blk_far hbq (p := ⟨b4, 0, none⟩) (by have := G5.out; show g ≠ b4; omega) (.slice A6 t.length c6)
  have T7 := Aside0.mk (show Kd.R k43 43 w7 w5.heap.size (fun _ => True) (.slice A6 t.length c6) t by rw [hw7]; exact twigs_set T6.out.1 (by have := X5.out.lt; omega) _)
  rw [← hw7] at hg7 ⊢
  have hq0 : w7.cell? ⟨g, 0, none⟩ = some (.slice A8 0 c8) := (blk_cell hg7 0).trans rfl
  have hc7 : w7.cell? ⟨b4, 0, none⟩ = some (.slice A6 t.length c6) := X7.out.c4
  have GG := Aside0.mk hg7
  clear hw7 hg7 hbq hc4 hf4
  go_upto_region 10 with (first | (go_at_call 32; (with_reducible refine (tree_Check.calls k A6 c6 t _ _ _ (Kd.R_reads' T7.out).2.2 (Kd.R_reads' T7.out).2.1 HK.out).mono ?_); rintro e w8 ⟨rfl, hb⟩; have B8 := Aside0.mk hb; clear hb))
  have hg8 := blk_below GG.out B8.out
  have hq2 : w8.cell? ⟨g, 2, none⟩ = some (.bool false) := (blk_cell hg8 2).trans rfl
  have X8 := Aside0.mk (X7.out.below B8.out)
  have T8 := Aside0.mk (twigs_below T7.out B8.out (by have := X5.out.lt; omega))
  have hc4 := X8.out.c4
  have hf4 := X8.out.f4
  have hc5 := X8.out.c5
  have hf5 := X8.out.f5
  have hc6 := X8.out.c6
  have hf6 := X8.out.f6
  clear hq0 hc7 hg8
  go_wp2
  obtain ⟨w9, hw9⟩ : ∃ W : World, W = ((w8.setCell ⟨b4, 0, none⟩ (.slice none 0 0)).setCell ⟨b4 + 1, 0, none⟩ (.int .i64 0)).setCell ⟨b4 + 1 + 1, 0, none⟩ (.int .i64 2) := ⟨_, rfl⟩
  have X9 := (show Box3 b4 w9 (.slice none 0 0) (.int .i64 0) (.int .i64 2) by rw [hw9]; exact ((X8.out.set4 _).set5 _).set6 _)
  have B9 := (show Below w.heap.size w w9 by rw [hw9]; exact below_set (below_set (below_set (below_step B7.out B8.out) E4.out) (by have := E4.out; omega)) (by have := E4.out; omega))
  rw [← hw9]
  clear hw9 hc4 hc5 hc6 hf4 hf5 hf6
  have hc4 := X9.c4
  have hc5 := X9.c5
  have hc6 := X9.c6
  refine leaves_cons (f := 78) (args := #[.pointer (some ⟨b4, 0, none⟩), .pointer (some ⟨b4 + 1, 0, none⟩), .pointer (some ⟨b4 + 1 + 1, 0, none⟩)]) (by simp) (by simp [go_sem]) ?_
  refine (catch_idle _ _ _ _).mono ?_
  rintro e u' w10 ⟨rfl, rfl, rfl⟩
  simp [Leaves, settle, results, Try.results56, go_sem, hc4, hc5, hc6]
  exact ⟨_, rfl, Kd.R_nil _ _ _ _ _, B9⟩
set_option maxHeartbeats 4000000 in
set_option maxRecDepth 100000 in
theorem all_f {k mf : Nat} {S : Pr (List Twg)} {s : ByteArray} {l : List Tok} {at_ er : Int} {w : World} {t : List Twg} {c : Int × Int} (h : token_All.f k s = some (l, at_, 0)) (hE : Ent Try.prog mf) (hS : Fn_ mf S) (hr : S l false = some (.ok t [] false)) (hK : tree_Check.f k t = some c) (h0 : c.2 = 0) :
    Calls Try.prog 56 #[.string s, .func (.func mf) #[] #[]] w (PostW w (t, 0, 0)) := by
  have HL := Aside0.mk (all_len h)
  have H := Aside0.mk h
  have HS := Aside0.mk hS
  have HR := Aside0.mk hr
  clear h hr hS
  have HK := Aside0.mk hK
  clear hK
  have hc1 : (c.2 == 0) = true := by simpa using h0
  clear h0
  go_enter_defers Try.func56, Try.ntmps56
  go_upto_region 1 with (fail)
  obtain ⟨b4, hb4⟩ : ∃ b, b = w.heap.size := ⟨_, rfl⟩
  obtain ⟨w1, hw1⟩ : ∃ W : World, W = ((w.alloc (.cells #[.slice none 0 0] 36 (0, 0))).alloc (.cells #[.int .i64 0] 3 (0, 0))).alloc (.cells #[.int .i64 0] 28 (0, 0)) := ⟨_, rfl⟩
  have X1 := Aside0.mk (show Box3 b4 w1 (.slice none 0 0) (.int .i64 0) (.int .i64 0) by rw [hw1, hb4]; exact Box3.new w)
  have B1 := Aside0.mk (show Below w.heap.size w w1 by rw [hw1]; exact below_alloc (below_alloc (below_alloc (Below.refl _ _) _) _) _)
  have E4 := Aside0.mk (show w.heap.size ≤ b4 by omega)
  rw [← hw1, ← hb4]
  clear hw1 hb4
  go_upto_region 2 with (go_at_call 21; (with_reducible refine (token_All.calls k s l at_ 0 _ H.out).mono ?_); rintro e w2 ⟨v0, rfl, ho, hb⟩; obtain ⟨A2, c2, rfl⟩ := Kd.R_slice ho; have HO := Aside0.mk ho; have X2 := Aside0.mk (X1.out.below hb); have B2 := Aside0.mk (below_step B1.out hb); clear ho hb; have hc5 := X2.out.c5; have hf5 := X2.out.f5; have hc6 := X2.out.c6; have hf6 := X2.out.f6)
  obtain ⟨w3, hw3⟩ : ∃ W : World, W = (w2.setCell ⟨b4 + 1, 0, none⟩ (.int .i64 at_)).setCell ⟨b4 + 1 + 1, 0, none⟩ (.int .i64 0) := ⟨_, rfl⟩
  have X3 := Aside0.mk (show Box3 b4 w3 (.slice none 0 0) (.int .i64 at_) (.int .i64 0) by rw [hw3]; exact (X2.out.set5 _).set6 _)
  have B3 := Aside0.mk (show Below w.heap.size w w3 by rw [hw3]; exact below_set (below_set B2.out (by have := E4.out; omega)) (by have := E4.out; omega))
  have R3 := Aside0.mk (show Kd.C k33 w3 A2 l.length l ∧ l.length ≤ c2 by
    rw [hw3]
    have h := Kd.R_reads' (toks_set (toks_set HO.out (p := b4 + 1) (by have := X1.out.lt; omega) (.int .i64 at_)) (p := b4 + 1 + 1) (by have := X1.out.lt; omega) (.int .i64 0))
    exact ⟨h.2.2, h.2.1⟩)
  rw [← hw3]
  clear hw3 hc5 hf5 hc6 hf6
  have hc6 := X3.out.c6
  go_upto_region 6 with (fail)
  obtain ⟨g, hg⟩ : ∃ g, g = w3.heap.size := ⟨_, rfl⟩
  obtain ⟨w5, hw5⟩ : ∃ W : World, W = w3.alloc (.cells #[.slice A2 l.length c2, .int .i64 (s.size : Int), .bool false] 91 (0, 0)) := ⟨_, rfl⟩
  have X5 := Aside0.mk (show Box3 b4 w5 (.slice none 0 0) (.int .i64 at_) (.int .i64 0) by rw [hw5]; exact X3.out.below (below_alloc (Below.refl _ _) _))
  have B5 := Aside0.mk (show Below w.heap.size w w5 by rw [hw5]; exact below_alloc B3.out _)
  have B35 := Aside0.mk (show Below w3.heap.size w3 w5 by rw [hw5]; exact below_alloc (Below.refl _ _) _)
  have I5 := Aside0.mk (show IsRd w3 w5 g l (s.size : Int) false by rw [hw5, hg]; exact ⟨A2, c2, blk_new _ _, Nat.le_refl _, R3.out.2, R3.out.1⟩)
  have G5 := Aside0.mk (show b4 + 3 ≤ g by have := X3.out.lt; omega)
  rw [← hw5, ← hg]
  clear hw5 hg hc6
  have hent : ∀ (args : Array Value) (w : World), Sem.run Try.prog (callFunc mf args) w = .ok (.enter mf args) w := hE
  go_upto_region 7 with (first | ((with_reducible refine (fn_at HS.out HR.out (by have := HL.out; omega) I5.out B35.out).mono ?_); rintro e w6 ⟨A6, c6, rfl, ht, hk⟩; have T6 := Aside0.mk ht; have K6 := Aside0.mk hk; clear ht hk; have X6 := Aside0.mk (X5.out.keep K6.out.k G5.out); have hc4 := X6.out.c4; have hf4 := X6.out.f4))
  obtain ⟨w7, hw7⟩ : ∃ W : World, W = w6.setCell ⟨b4, 0, none⟩ (.slice A6 t.length c6) := ⟨_, rfl⟩
  have X7 := Aside0.mk (show Box3 b4 w7 (.slice A6 t.length c6) (.int .i64 at_) (.int .i64 0) by rw [hw7]; exact X6.out.set4 _)
  have B7 := Aside0.mk (show Below w.heap.size w w7 by rw [hw7]; exact below_set (below_step B3.out K6.out.b) E4.out)
  obtain ⟨A8, c8, hbq, _, _, _⟩ := K6.out.i
  have hg7 := blk_far hbq (p := ⟨b4, 0, none⟩) (by have := G5.out; show g ≠ b4; omega) (.slice A6 t.length c6)
  have T7 := Aside0.mk (show Kd.R k43 43 w7 w5.heap.size (fun _ => True) (.slice A6 t.length c6) t by rw [hw7]; exact twigs_set T6.out.1 (by have := X5.out.lt; omega) _)
  rw [← hw7] at hg7 ⊢
  have hq0 : w7.cell? ⟨g, 0, none⟩ = some (.slice A8 0 c8) := (blk_cell hg7 0).trans rfl
  have hc7 : w7.cell? ⟨b4, 0, none⟩ = some (.slice A6 t.length c6) := X7.out.c4
  have GG := Aside0.mk hg7
  clear hw7 hg7 hbq hc4 hf4
  go_upto_region 10 with (first | (go_at_call 32; (with_reducible refine (tree_Check.calls k A6 c6 t _ _ _ (Kd.R_reads' T7.out).2.2 (Kd.R_reads' T7.out).2.1 HK.out).mono ?_); rintro e w8 ⟨rfl, hb⟩; have B8 := Aside0.mk hb; clear hb))
  have hg8 := blk_below GG.out B8.out
  have hq2 : w8.cell? ⟨g, 2, none⟩ = some (.bool false) := (blk_cell hg8 2).trans rfl
  have X8 := Aside0.mk (X7.out.below B8.out)
  have T8 := Aside0.mk (twigs_below T7.out B8.out (by have := X5.out.lt; omega))
  have hc4 := X8.out.c4
  have hf4 := X8.out.f4
  have hc5 := X8.out.c5
  have hf5 := X8.out.f5
  have hc6 := X8.out.c6
  have hf6 := X8.out.f6
  clear hq0 hc7 hg8
  go_wp2
  obtain ⟨w9, hw9⟩ : ∃ W : World, W = ((w8.setCell ⟨b4, 0, none⟩ (.slice A6 t.length c6)).setCell ⟨b4 + 1, 0, none⟩ (.int .i64 0)).setCell ⟨b4 + 1 + 1, 0, none⟩ (.int .i64 0) := ⟨_, rfl⟩
  have X9 := (show Box3 b4 w9 (.slice A6 t.length c6) (.int .i64 0) (.int .i64 0) by rw [hw9]; exact ((X8.out.set4 _).set5 _).set6 _)
  have B9 := (show Below w.heap.size w w9 by rw [hw9]; exact below_set (below_set (below_set (below_step B7.out B8.out) E4.out) (by have := E4.out; omega)) (by have := E4.out; omega))
  have T9 := (show Kd.R k43 43 w9 w5.heap.size (fun _ => True) (.slice A6 t.length c6) t by rw [hw9]; exact twigs_set (twigs_set (twigs_set T8.out (by have := X5.out.lt; omega) _) (by have := X5.out.lt; omega) _) (by have := X5.out.lt; omega) _)
  rw [← hw9]
  clear hw9 hc4 hc5 hc6 hf4 hf5 hf6
  have hc4 := X9.c4
  have hc5 := X9.c5
  have hc6 := X9.c6
  refine leaves_cons (f := 78) (args := #[.pointer (some ⟨b4, 0, none⟩), .pointer (some ⟨b4 + 1, 0, none⟩), .pointer (some ⟨b4 + 1 + 1, 0, none⟩)]) (by simp) (by simp [go_sem]) ?_
  refine (catch_idle _ _ _ _).mono ?_
  rintro e u' w10 ⟨rfl, rfl, rfl⟩
  simp [Leaves, settle, results, Try.results56, go_sem, hc4, hc5, hc6]
  exact ⟨_, rfl, Kd.R_lower T9 B5.out.size, B9⟩
theorem rd_all {k mf : Nat} {S : Pr (List Twg)} {s : ByteArray} {r : List Twg × Int × Int} {w : World} (h : allS k S s = some r) (hE : Ent Try.prog mf) (hS : Fn_ mf S) : Calls Try.prog 56 #[.string s, .func (.func mf) #[] #[]] w (PostW w r) := by
  obtain ⟨⟨l, at_, er⟩, hq, h⟩ := all_inv h
  dsimp only at h
  rcases h with ⟨h0, rfl⟩ | ⟨rfl, ⟨l', hr, rfl⟩ | ⟨t, x, m, lg, hr, rfl⟩ | ⟨t, lg, c, hr, hc, ⟨rfl, rfl⟩ | ⟨rfl, h1, rfl⟩ | ⟨rfl, h1, rfl⟩⟩⟩
  · exact all_a (S := S) hq h0
  · exact all_b (er := 0) hq hE hS hr
  · exact all_c (er := 0) hq hE hS hr
  · exact all_d (er := 0) hq hE hS hr hc
  · exact all_e (er := 0) hq hE hS hr hc h1
  · exact all_f (er := 0) hq hE hS hr hc h1
set_option maxHeartbeats 1000000 in
theorem parse_Flow.calls (k : Nat) (a0 : ByteArray) (r1 : List Twg) (r2 r3 : Int) (w : World) (h : parse_Flow.f k a0 = some (r1, r2, r3)) : Calls Try.prog 37 #[.string a0] w fun e w' => ∃ v0_ : Value, e = .returned (.tuple #[v0_, .int .i64 r2, .int .i64 r3]) ∧ Kd.R k43 43 w' w.heap.size (fun _ => True) v0_ r1 ∧ Below w.heap.size w w' := by
  have H := Aside0.mk (rd_all (w := w) (mf := 59) h (enters_ Try.func59 (by kernel_rfl) rfl) rd_flow)
  clear h
  go_enter Try.func37, Try.ntmps37
  go_wp2_with (go_at_call 56; (with_reducible refine H.out.mono ?_); rintro e w1 ⟨v0, rfl, ho, hb⟩; have HO := Aside0.mk ho; have HB := Aside0.mk hb; clear ho hb)
  go_ret3
  exact ⟨_, rfl, HO.out, HB.out⟩
set_option maxHeartbeats 1000000 in
theorem parse_Expr.calls (k : Nat) (a0 : ByteArray) (r1 : List Twg) (r2 r3 : Int) (w : World) (h : parse_Expr.f k a0 = some (r1, r2, r3)) : Calls Try.prog 34 #[.string a0] w fun e w' => ∃ v0_ : Value, e = .returned (.tuple #[v0_, .int .i64 r2, .int .i64 r3]) ∧ Kd.R k43 43 w' w.heap.size (fun _ => True) v0_ r1 ∧ Below w.heap.size w w' := by
  have H := Aside0.mk (rd_all (w := w) (mf := 57) h (ent_of 0) (all_ok k).expr_)
  clear h
  go_enter Try.func34, Try.ntmps34
  go_wp2_with (go_at_call 56; (with_reducible refine H.out.mono ?_); rintro e w1 ⟨v0, rfl, ho, hb⟩; have HO := Aside0.mk ho; have HB := Aside0.mk hb; clear ho hb)
  go_ret3
  exact ⟨_, rfl, HO.out, HB.out⟩
end Go.Proofs.Ytlbchdalimngjaa.P
namespace Go.Proofs.Ytlbchdalimngjaa.P
open Go.RowKit Go.Proofs.YtlbchdalimngjaaW.PrintWords Go.Proofs.YtlbchdalimngjaaW.PrintLast Go.Proofs.YtlbchdalimngjaaW.PrintMore
attribute [local go_sem] max2_int min2_int max_two min_two max_three min_three max_four min_four
set_option linter.unusedVariables false
set_option linter.unusedSimpArgs false
def prompterlaw09_wakes.f (k : Nat)  : Option (Bool) := (parse_Expr.f k (⟨#[49, 32, 45, 32, 50, 32, 45, 32, 51]⟩ : ByteArray)).bind fun bt662 => (if bt662.2.2 = 0 then (if bt662.2.1 = 0 then (if (bt662.1.length : Int) = 5 then (if 1 < (bt662.1.length : Int) then (if ((rd_T43 bt662.1 1).f0) = 37 then (if 4 < (bt662.1.length : Int) then (some (((rd_T43 bt662.1 4).f2) == 3)) else (none)) else (some false)) else (none)) else (some false)) else (some false)) else (some false))
theorem prompterlaw09_wakes.mono : ∀ k, LeO (prompterlaw09_wakes.f k ) (prompterlaw09_wakes.f (k + 1) ) := by
  intro  k
  unfold prompterlaw09_wakes.f
  repeat' first
      | (with_reducible exact parse_Expr.mono _ _)
      | (with_reducible exact LeO.refl _)
      | (with_reducible exact LeO.none _)
      | (with_reducible refine LeO.ite ?_ ?_)
      | (with_reducible refine LeO.bind ?_ (fun _ => ?_))
      | exact parse_Expr.mono _ _
      | exact LeO.none _
      | refine LeO.ite ?_ ?_
      | refine LeO.bind ?_ (fun _ => ?_)
set_option maxHeartbeats 8000000 in
set_option maxRecDepth 100000 in
theorem prompterlaw09_wakes.calls (k : Nat)  (r : Bool) (w : World) (h : prompterlaw09_wakes.f k  = some r) :
    Calls Try.prog 36 #[] w fun e w' => e = .returned (.bool r) ∧ Below w.heap.size w w' := by
  have HB := Aside0.mk (Below.refl w.heap.size w)
  have H : ((parse_Expr.f k (⟨#[49, 32, 45, 32, 50, 32, 45, 32, 51]⟩ : ByteArray)).bind fun bt662 => (if bt662.2.2 = 0 then (if bt662.2.1 = 0 then (if (bt662.1.length : Int) = 5 then (if 1 < (bt662.1.length : Int) then (if ((rd_T43 bt662.1 1).f0) = 37 then (if 4 < (bt662.1.length : Int) then (some (((rd_T43 bt662.1 4).f2) == 3)) else (none)) else (some false)) else (none)) else (some false)) else (some false)) else (some false))) = some r := h
  clear h
  replace H := Option.bind_eq_some_iff.mp H
  obtain ⟨⟨t662, t663, t664⟩, A10, H⟩ := H
  replace H : (if t664 = 0 then (if t663 = 0 then (if (t662.length : Int) = 5 then (if 1 < (t662.length : Int) then (if ((rd_T43 t662 1).f0) = 37 then (if 4 < (t662.length : Int) then (some (((rd_T43 t662 4).f2) == 3)) else (none)) else (some false)) else (none)) else (some false)) else (some false)) else (some false)) = some r := H
  have A1 := Aside0.mk A10
  clear A10
  by_cases c2 : t664 = 0
  · rw [if_pos c2] at H
    have c2b0 : (t664 == 0) = true := beq_iff_eq.mpr c2
    have c2b1 : (t664 != 0) = false := bne_eq_false_iff_eq.mpr c2
    clear c2
    by_cases c3 : t663 = 0
    · rw [if_pos c3] at H
      have c3b0 : (t663 == 0) = true := beq_iff_eq.mpr c3
      have c3b1 : (t663 != 0) = false := bne_eq_false_iff_eq.mpr c3
      clear c3
      by_cases c4 : (t662.length : Int) = 5
      · rw [if_pos c4] at H
        have c4b0 : ((t662.length : Int) == 5) = true := beq_iff_eq.mpr c4
        have c4b1 : ((t662.length : Int) != 5) = false := bne_eq_false_iff_eq.mpr c4
        clear c4
        by_cases c5 : 1 < (t662.length : Int)
        · rw [if_pos c5] at H
          have c5b0 : decide (1 < (t662.length : Int)) = true := decide_eq_true c5
          have c5b1 : decide (1 < t662.length) = true := decide_eq_true (by omega)
          clear c5
          by_cases c6 : ((rd_T43 t662 1).f0) = 37
          · rw [if_pos c6] at H
            have c6b0 : (((rd_T43 t662 1).f0) == 37) = true := beq_iff_eq.mpr c6
            have c6b1 : (((rd_T43 t662 1).f0) != 37) = false := bne_eq_false_iff_eq.mpr c6
            clear c6
            by_cases c7 : 4 < (t662.length : Int)
            · rw [if_pos c7] at H
              have c7b0 : decide (4 < (t662.length : Int)) = true := decide_eq_true c7
              have c7b1 : decide (4 < t662.length) = true := decide_eq_true (by omega)
              clear c7
              obtain rfl := Option.some.inj H
              go_enter Try.func36, Try.ntmps36
              go_wp2_with (first | ((with_reducible refine gate_callee (f := 34) rfl ?_); refine goesL_ (some 5) rfl rfl Try.func34 (by kernel_rfl) rfl #[.string (⟨#[49, 32, 45, 32, 50, 32, 45, 32, 51]⟩ : ByteArray)] rfl (by (try simp only [List.map_toArray, List.map_cons, List.map_nil]); first | done | rfl | (simp only [List.length_drop, List.length_take]; rfl)) ?_; (with_reducible refine (parse_Expr.calls k (⟨#[49, 32, 45, 32, 50, 32, 45, 32, 51]⟩ : ByteArray) t662 t663 t664 _ A1.out).mono ?_); rintro e w8 ⟨v665, rfl, ho0, hb⟩; refine ⟨_, rfl, ?_⟩; have n0_ := Aside0.mk (Kd.R_lower ho0 (below_size (by repeat (first | (with_reducible first | exact HB.out | apply below_alloc | apply pw_below_drewN | apply below_drew1) | exact HB.out)))); have n1_ := Aside0.mk (below_step (by repeat (first | (with_reducible first | exact HB.out | apply below_alloc | apply pw_below_drewN | apply below_drew1) | exact HB.out)) hb); clear HB; have HO666 := n0_; have HB := n1_; clear n0_ n1_; (try clear hb); (try clear hb2); (try clear hk); (try clear hi); (try clear ho0); obtain ⟨Ao9, co9, eo9⟩ := Kd.R_slice HO666.out; subst eo9; have p667 : 0 ≤ (1 : Int) := (by omega); have q667 : 1 < (t662.length : Int) := of_decide_eq_true (by first | (with_reducible assumption) | assumption); obtain ⟨ad667, e667, hx667_0, hx667_1, hx667_2, hx667_3⟩ := at_T43 (Kd.R_reads' HO666.out).2.2 1 p667 q667; cases e667; (try simp only [show (1 : Int).toNat = 1 from rfl, Nat.reduceMul, Nat.reduceEqDiff, Go.Addr.add, ↓reduceIte] at hx667_0); (try simp only [show (1 : Int).toNat = 1 from rfl, Nat.reduceMul, Nat.reduceEqDiff, Go.Addr.add, ↓reduceIte] at hx667_1); (try simp only [show (1 : Int).toNat = 1 from rfl, Nat.reduceMul, Nat.reduceEqDiff, Go.Addr.add, ↓reduceIte] at hx667_2); (try simp only [show (1 : Int).toNat = 1 from rfl, Nat.reduceMul, Nat.reduceEqDiff, Go.Addr.add, ↓reduceIte] at hx667_3); have qi667 : (1 < t662.length) = True := eq_true (by omega); (try rw [show ((1 : Int)).toNat = 1 from rfl] at hx667_0); (try rw [show 1 * 4 = 4 from rfl] at hx667_0); (try rw [show ((1 : Int)).toNat = 1 from rfl] at hx667_1); (try rw [show 1 * 4 = 4 from rfl] at hx667_1); (try rw [show ((1 : Int)).toNat = 1 from rfl] at hx667_2); (try rw [show 1 * 4 = 4 from rfl] at hx667_2); (try rw [show ((1 : Int)).toNat = 1 from rfl] at hx667_3); (try rw [show 1 * 4 = 4 from rfl] at hx667_3); replace p667 := eq_true p667; replace q667 := eq_true q667; have p668 : 0 ≤ (4 : Int) := (by omega); have q668 : 4 < (t662.length : Int) := of_decide_eq_true (by first | (with_reducible assumption) | assumption); obtain ⟨ad668, e668, hx668_0, hx668_1, hx668_2, hx668_3⟩ := at_T43 (Kd.R_reads' HO666.out).2.2 4 p668 q668; obtain rfl : ad667 = ad668 := (by injection e668); (try simp only [show (4 : Int).toNat = 4 from rfl, Nat.reduceMul, Nat.reduceEqDiff, Go.Addr.add, ↓reduceIte] at hx668_0); (try simp only [show (4 : Int).toNat = 4 from rfl, Nat.reduceMul, Nat.reduceEqDiff, Go.Addr.add, ↓reduceIte] at hx668_1); (try simp only [show (4 : Int).toNat = 4 from rfl, Nat.reduceMul, Nat.reduceEqDiff, Go.Addr.add, ↓reduceIte] at hx668_2); (try simp only [show (4 : Int).toNat = 4 from rfl, Nat.reduceMul, Nat.reduceEqDiff, Go.Addr.add, ↓reduceIte] at hx668_3); have qi668 : (4 < t662.length) = True := eq_true (by omega); (try rw [show ((4 : Int)).toNat = 4 from rfl] at hx668_0); (try rw [show 4 * 4 = 16 from rfl] at hx668_0); (try rw [show ((4 : Int)).toNat = 4 from rfl] at hx668_1); (try rw [show 4 * 4 = 16 from rfl] at hx668_1); (try rw [show ((4 : Int)).toNat = 4 from rfl] at hx668_2); (try rw [show 4 * 4 = 16 from rfl] at hx668_2); (try rw [show ((4 : Int)).toNat = 4 from rfl] at hx668_3); (try rw [show 4 * 4 = 16 from rfl] at hx668_3); replace p668 := eq_true p668; replace q668 := eq_true q668))
              go_ret
              exact ⟨by first | rfl | (simp [errW_none, errW_some] <;> rfl) | (simp [*, errW_none, errW_some] <;> rfl), by repeat (first | (with_reducible first | exact HB.out | apply below_alloc | apply pw_below_drewN | apply below_drew1) | exact HB.out)⟩
            · rw [if_neg c7] at H
              exact absurd H (by simp)
          · rw [if_neg c6] at H
            have c6b0 : (((rd_T43 t662 1).f0) == 37) = false := beq_eq_false_iff_ne.mpr c6
            have c6b1 : (((rd_T43 t662 1).f0) != 37) = true := bne_iff_ne.mpr c6
            obtain rfl := Option.some.inj H
            go_enter Try.func36, Try.ntmps36
            go_wp2_with (first | ((with_reducible refine gate_callee (f := 34) rfl ?_); refine goesL_ (some 5) rfl rfl Try.func34 (by kernel_rfl) rfl #[.string (⟨#[49, 32, 45, 32, 50, 32, 45, 32, 51]⟩ : ByteArray)] rfl (by (try simp only [List.map_toArray, List.map_cons, List.map_nil]); first | done | rfl | (simp only [List.length_drop, List.length_take]; rfl)) ?_; (with_reducible refine (parse_Expr.calls k (⟨#[49, 32, 45, 32, 50, 32, 45, 32, 51]⟩ : ByteArray) t662 t663 t664 _ A1.out).mono ?_); rintro e w10 ⟨v665, rfl, ho0, hb⟩; refine ⟨_, rfl, ?_⟩; have n0_ := Aside0.mk (Kd.R_lower ho0 (below_size (by repeat (first | (with_reducible first | exact HB.out | apply below_alloc | apply pw_below_drewN | apply below_drew1) | exact HB.out)))); have n1_ := Aside0.mk (below_step (by repeat (first | (with_reducible first | exact HB.out | apply below_alloc | apply pw_below_drewN | apply below_drew1) | exact HB.out)) hb); clear HB; have HO666 := n0_; have HB := n1_; clear n0_ n1_; (try clear hb); (try clear hb2); (try clear hk); (try clear hi); (try clear ho0); obtain ⟨Ao11, co11, eo11⟩ := Kd.R_slice HO666.out; subst eo11; have p667 : 0 ≤ (1 : Int) := (by omega); have q667 : 1 < (t662.length : Int) := of_decide_eq_true (by first | (with_reducible assumption) | assumption); obtain ⟨ad667, e667, hx667_0, hx667_1, hx667_2, hx667_3⟩ := at_T43 (Kd.R_reads' HO666.out).2.2 1 p667 q667; cases e667; (try simp only [show (1 : Int).toNat = 1 from rfl, Nat.reduceMul, Nat.reduceEqDiff, Go.Addr.add, ↓reduceIte] at hx667_0); (try simp only [show (1 : Int).toNat = 1 from rfl, Nat.reduceMul, Nat.reduceEqDiff, Go.Addr.add, ↓reduceIte] at hx667_1); (try simp only [show (1 : Int).toNat = 1 from rfl, Nat.reduceMul, Nat.reduceEqDiff, Go.Addr.add, ↓reduceIte] at hx667_2); (try simp only [show (1 : Int).toNat = 1 from rfl, Nat.reduceMul, Nat.reduceEqDiff, Go.Addr.add, ↓reduceIte] at hx667_3); have qi667 : (1 < t662.length) = True := eq_true (by omega); (try rw [show ((1 : Int)).toNat = 1 from rfl] at hx667_0); (try rw [show 1 * 4 = 4 from rfl] at hx667_0); (try rw [show ((1 : Int)).toNat = 1 from rfl] at hx667_1); (try rw [show 1 * 4 = 4 from rfl] at hx667_1); (try rw [show ((1 : Int)).toNat = 1 from rfl] at hx667_2); (try rw [show 1 * 4 = 4 from rfl] at hx667_2); (try rw [show ((1 : Int)).toNat = 1 from rfl] at hx667_3); (try rw [show 1 * 4 = 4 from rfl] at hx667_3); replace p667 := eq_true p667; replace q667 := eq_true q667))
            go_ret
            exact ⟨by first | rfl | (simp [errW_none, errW_some] <;> rfl) | (simp [*, errW_none, errW_some] <;> rfl), by repeat (first | (with_reducible first | exact HB.out | apply below_alloc | apply pw_below_drewN | apply below_drew1) | exact HB.out)⟩
        · rw [if_neg c5] at H
          exact absurd H (by simp)
      · rw [if_neg c4] at H
        have c4b0 : ((t662.length : Int) == 5) = false := beq_eq_false_iff_ne.mpr c4
        have c4b1 : ((t662.length : Int) != 5) = true := bne_iff_ne.mpr c4
        obtain rfl := Option.some.inj H
        go_enter Try.func36, Try.ntmps36
        go_wp2_with (first | ((with_reducible refine gate_callee (f := 34) rfl ?_); refine goesL_ (some 5) rfl rfl Try.func34 (by kernel_rfl) rfl #[.string (⟨#[49, 32, 45, 32, 50, 32, 45, 32, 51]⟩ : ByteArray)] rfl (by (try simp only [List.map_toArray, List.map_cons, List.map_nil]); first | done | rfl | (simp only [List.length_drop, List.length_take]; rfl)) ?_; (with_reducible refine (parse_Expr.calls k (⟨#[49, 32, 45, 32, 50, 32, 45, 32, 51]⟩ : ByteArray) t662 t663 t664 _ A1.out).mono ?_); rintro e w12 ⟨v665, rfl, ho0, hb⟩; refine ⟨_, rfl, ?_⟩; have n0_ := Aside0.mk (Kd.R_lower ho0 (below_size (by repeat (first | (with_reducible first | exact HB.out | apply below_alloc | apply pw_below_drewN | apply below_drew1) | exact HB.out)))); have n1_ := Aside0.mk (below_step (by repeat (first | (with_reducible first | exact HB.out | apply below_alloc | apply pw_below_drewN | apply below_drew1) | exact HB.out)) hb); clear HB; have HO666 := n0_; have HB := n1_; clear n0_ n1_; (try clear hb); (try clear hb2); (try clear hk); (try clear hi); (try clear ho0); obtain ⟨Ao13, co13, eo13⟩ := Kd.R_slice HO666.out; subst eo13))
        go_ret
        exact ⟨by first | rfl | (simp [errW_none, errW_some] <;> rfl) | (simp [*, errW_none, errW_some] <;> rfl), by repeat (first | (with_reducible first | exact HB.out | apply below_alloc | apply pw_below_drewN | apply below_drew1) | exact HB.out)⟩
    · rw [if_neg c3] at H
      have c3b0 : (t663 == 0) = false := beq_eq_false_iff_ne.mpr c3
      have c3b1 : (t663 != 0) = true := bne_iff_ne.mpr c3
      obtain rfl := Option.some.inj H
      go_enter Try.func36, Try.ntmps36
      go_wp2_with (first | ((with_reducible refine gate_callee (f := 34) rfl ?_); refine goesL_ (some 5) rfl rfl Try.func34 (by kernel_rfl) rfl #[.string (⟨#[49, 32, 45, 32, 50, 32, 45, 32, 51]⟩ : ByteArray)] rfl (by (try simp only [List.map_toArray, List.map_cons, List.map_nil]); first | done | rfl | (simp only [List.length_drop, List.length_take]; rfl)) ?_; (with_reducible refine (parse_Expr.calls k (⟨#[49, 32, 45, 32, 50, 32, 45, 32, 51]⟩ : ByteArray) t662 t663 t664 _ A1.out).mono ?_); rintro e w14 ⟨v665, rfl, ho0, hb⟩; refine ⟨_, rfl, ?_⟩; have n0_ := Aside0.mk (Kd.R_lower ho0 (below_size (by repeat (first | (with_reducible first | exact HB.out | apply below_alloc | apply pw_below_drewN | apply below_drew1) | exact HB.out)))); have n1_ := Aside0.mk (below_step (by repeat (first | (with_reducible first | exact HB.out | apply below_alloc | apply pw_below_drewN | apply below_drew1) | exact HB.out)) hb); clear HB; have HO666 := n0_; have HB := n1_; clear n0_ n1_; (try clear hb); (try clear hb2); (try clear hk); (try clear hi); (try clear ho0)))
      go_ret
      exact ⟨by first | rfl | (simp [errW_none, errW_some] <;> rfl) | (simp [*, errW_none, errW_some] <;> rfl), by repeat (first | (with_reducible first | exact HB.out | apply below_alloc | apply pw_below_drewN | apply below_drew1) | exact HB.out)⟩
  · rw [if_neg c2] at H
    have c2b0 : (t664 == 0) = false := beq_eq_false_iff_ne.mpr c2
    have c2b1 : (t664 != 0) = true := bne_iff_ne.mpr c2
    obtain rfl := Option.some.inj H
    go_enter Try.func36, Try.ntmps36
    go_wp2_with (first | ((with_reducible refine gate_callee (f := 34) rfl ?_); refine goesL_ (some 5) rfl rfl Try.func34 (by kernel_rfl) rfl #[.string (⟨#[49, 32, 45, 32, 50, 32, 45, 32, 51]⟩ : ByteArray)] rfl (by (try simp only [List.map_toArray, List.map_cons, List.map_nil]); first | done | rfl | (simp only [List.length_drop, List.length_take]; rfl)) ?_; (with_reducible refine (parse_Expr.calls k (⟨#[49, 32, 45, 32, 50, 32, 45, 32, 51]⟩ : ByteArray) t662 t663 t664 _ A1.out).mono ?_); rintro e w15 ⟨v665, rfl, ho0, hb⟩; refine ⟨_, rfl, ?_⟩; have n0_ := Aside0.mk (Kd.R_lower ho0 (below_size (by repeat (first | (with_reducible first | exact HB.out | apply below_alloc | apply pw_below_drewN | apply below_drew1) | exact HB.out)))); have n1_ := Aside0.mk (below_step (by repeat (first | (with_reducible first | exact HB.out | apply below_alloc | apply pw_below_drewN | apply below_drew1) | exact HB.out)) hb); clear HB; have HO666 := n0_; have HB := n1_; clear n0_ n1_; (try clear hb); (try clear hb2); (try clear hk); (try clear hi); (try clear ho0)))
    go_ret
    exact ⟨by first | rfl | (simp [errW_none, errW_some] <;> rfl) | (simp [*, errW_none, errW_some] <;> rfl), by repeat (first | (with_reducible first | exact HB.out | apply below_alloc | apply pw_below_drewN | apply below_drew1) | exact HB.out)⟩
end Go.Proofs.Ytlbchdalimngjaa.P
namespace Go.Proofs.Ytlbchdalimngjaa.P
open Go.RowKit Go.Proofs.YtlbchdalimngjaaW.PrintWords Go.Proofs.YtlbchdalimngjaaW.PrintLast Go.Proofs.YtlbchdalimngjaaW.PrintMore
attribute [local go_sem] max2_int min2_int max_two min_two max_three min_three max_four min_four
set_option linter.unusedVariables false
set_option linter.unusedSimpArgs false
mutual
def prompterlaw09_ParseGoesOn.j0 : Nat → ByteArray → Int → Option (Bool)
  | 0, _, _ => none
  | k + 1, x0, x1 => (parse_Flow.f k x0).bind fun bt681 => (if bt681.2.1 < 0 then (prompterlaw09_ParseGoesOn.j1 k x0 x1 bt681.2.1 bt681.2.2 true) else (if bt681.2.1 > (x0.size : Int) then (prompterlaw09_ParseGoesOn.j1 k x0 x1 bt681.2.1 bt681.2.2 true) else (if bt681.2.2 = 4 then (prompterlaw09_ParseGoesOn.j1 k x0 x1 bt681.2.1 bt681.2.2 (bt681.2.1 != (x0.size : Int))) else (prompterlaw09_ParseGoesOn.j1 k x0 x1 bt681.2.1 bt681.2.2 false))))
def prompterlaw09_ParseGoesOn.j1 : Nat → ByteArray → Int → Int → Int → Bool → Option (Bool)
  | 0, _, _, _, _, _ => none
  | k + 1, x0, x1, x6, x7, x42 => if x42 = true then (some false) else (if x1 < 0 then (prompterlaw09_ParseGoesOn.j2 k x0 x1 x6 x7 true) else (prompterlaw09_ParseGoesOn.j2 k x0 x1 x6 x7 (decide (x1 ≥ (x0.size : Int)))))
def prompterlaw09_ParseGoesOn.j2 : Nat → ByteArray → Int → Int → Int → Bool → Option (Bool)
  | 0, _, _, _, _, _ => none
  | k + 1, x0, x1, x6, x7, x50 => if x50 = true then ((prompterlaw09_wakes.f k).bind fun t686 => (some t686)) else (if 0 ≤ x1 then (if x1 ≤ (x0.size : Int) then ((parse_Flow.f k (x0.extract 0 (x1 : Int).toNat)).bind fun bt687 => ((token_All.f k x0).bind fun bt692 => (if bt692.2.2 = 0 then (if x7 = 9 then (if x1 ≤ x6 then (prompterlaw09_ParseGoesOn.j3 k x1 bt687.2.1 (bt687.2.2 == 9)) else (prompterlaw09_ParseGoesOn.j3 k x1 bt687.2.1 false)) else (prompterlaw09_ParseGoesOn.j3 k x1 bt687.2.1 false)) else (prompterlaw09_ParseGoesOn.j3 k x1 bt687.2.1 false)))) else (none)) else (none))
def prompterlaw09_ParseGoesOn.j3 : Nat → Int → Int → Bool → Option (Bool)
  | 0, _, _, _ => none
  | k + 1, x1, x9, x80 => if x80 = true then (if x9 ≥ (wrap64 (x1 - 24)) then ((prompterlaw09_wakes.f k).bind fun t697 => (some t697)) else (some false)) else (if x9 ≥ 0 then (if x9 ≤ x1 then ((prompterlaw09_wakes.f k).bind fun t698 => (some t698)) else (some false)) else (some false))
end
def prompterlaw09_ParseGoesOn.f (k : Nat) (a0 : ByteArray) (a1 : Int) : Option (Bool) := if (a0.size : Int) > 20000 then (if 0 ≤ 20000 then (if 20000 ≤ (a0.size : Int) then (prompterlaw09_ParseGoesOn.j0 k (a0.extract 0 20000) a1) else (none)) else (none)) else (prompterlaw09_ParseGoesOn.j0 k a0 a1)
theorem prompterlaw09_ParseGoesOn.mono_l : ∀ k, (∀ y0 y1, LeO (prompterlaw09_ParseGoesOn.j0 k y0 y1) (prompterlaw09_ParseGoesOn.j0 (k + 1) y0 y1)) ∧ (∀ y0 y1 y2 y3 y4, LeO (prompterlaw09_ParseGoesOn.j1 k y0 y1 y2 y3 y4) (prompterlaw09_ParseGoesOn.j1 (k + 1) y0 y1 y2 y3 y4)) ∧ (∀ y0 y1 y2 y3 y4, LeO (prompterlaw09_ParseGoesOn.j2 k y0 y1 y2 y3 y4) (prompterlaw09_ParseGoesOn.j2 (k + 1) y0 y1 y2 y3 y4)) ∧ (∀ y0 y1 y2, LeO (prompterlaw09_ParseGoesOn.j3 k y0 y1 y2) (prompterlaw09_ParseGoesOn.j3 (k + 1) y0 y1 y2))
  | 0 => ⟨fun _ _ r h => by simp [prompterlaw09_ParseGoesOn.j0] at h, fun _ _ _ _ _ r h => by simp [prompterlaw09_ParseGoesOn.j1] at h, fun _ _ _ _ _ r h => by simp [prompterlaw09_ParseGoesOn.j2] at h, fun _ _ _ r h => by simp [prompterlaw09_ParseGoesOn.j3] at h⟩
  | k + 1 => by
    obtain ⟨ih0, ih1, ih2, ih3⟩ := prompterlaw09_ParseGoesOn.mono_l k
    refine ⟨?_, ?_, ?_, ?_⟩
    · intro y0 y1
      unfold prompterlaw09_ParseGoesOn.j0
      repeat' first
      | (with_reducible exact ih0 _ _)
      | (with_reducible exact ih1 _ _ _ _ _)
      | (with_reducible exact ih2 _ _ _ _ _)
      | (with_reducible exact ih3 _ _ _)
      | (with_reducible exact parse_Flow.mono _ _)
      | (with_reducible exact prompterlaw09_wakes.mono _)
      | (with_reducible exact token_All.mono _ _)
      | (with_reducible exact LeO.refl _)
      | (with_reducible exact LeO.none _)
      | (with_reducible refine LeO.ite ?_ ?_)
      | (with_reducible refine LeO.bind ?_ (fun _ => ?_))
      | exact ih0 _ _
      | exact ih1 _ _ _ _ _
      | exact ih2 _ _ _ _ _
      | exact ih3 _ _ _
      | exact parse_Flow.mono _ _
      | exact prompterlaw09_wakes.mono _
      | exact token_All.mono _ _
      | exact LeO.none _
      | refine LeO.ite ?_ ?_
      | refine LeO.bind ?_ (fun _ => ?_)
    · intro y0 y1 y2 y3 y4
      unfold prompterlaw09_ParseGoesOn.j1
      repeat' first
      | (with_reducible exact ih0 _ _)
      | (with_reducible exact ih1 _ _ _ _ _)
      | (with_reducible exact ih2 _ _ _ _ _)
      | (with_reducible exact ih3 _ _ _)
      | (with_reducible exact parse_Flow.mono _ _)
      | (with_reducible exact prompterlaw09_wakes.mono _)
      | (with_reducible exact token_All.mono _ _)
      | (with_reducible exact LeO.refl _)
      | (with_reducible exact LeO.none _)
      | (with_reducible refine LeO.ite ?_ ?_)
      | (with_reducible refine LeO.bind ?_ (fun _ => ?_))
      | exact ih0 _ _
      | exact ih1 _ _ _ _ _
      | exact ih2 _ _ _ _ _
      | exact ih3 _ _ _
      | exact parse_Flow.mono _ _
      | exact prompterlaw09_wakes.mono _
      | exact token_All.mono _ _
      | exact LeO.none _
      | refine LeO.ite ?_ ?_
      | refine LeO.bind ?_ (fun _ => ?_)
    · intro y0 y1 y2 y3 y4
      unfold prompterlaw09_ParseGoesOn.j2
      repeat' first
      | (with_reducible exact ih0 _ _)
      | (with_reducible exact ih1 _ _ _ _ _)
      | (with_reducible exact ih2 _ _ _ _ _)
      | (with_reducible exact ih3 _ _ _)
      | (with_reducible exact parse_Flow.mono _ _)
      | (with_reducible exact prompterlaw09_wakes.mono _)
      | (with_reducible exact token_All.mono _ _)
      | (with_reducible exact LeO.refl _)
      | (with_reducible exact LeO.none _)
      | (with_reducible refine LeO.ite ?_ ?_)
      | (with_reducible refine LeO.bind ?_ (fun _ => ?_))
      | exact ih0 _ _
      | exact ih1 _ _ _ _ _
      | exact ih2 _ _ _ _ _
      | exact ih3 _ _ _
      | exact parse_Flow.mono _ _
      | exact prompterlaw09_wakes.mono _
      | exact token_All.mono _ _
      | exact LeO.none _
      | refine LeO.ite ?_ ?_
      | refine LeO.bind ?_ (fun _ => ?_)
    · intro y0 y1 y2
      unfold prompterlaw09_ParseGoesOn.j3
      repeat' first
      | (with_reducible exact ih0 _ _)
      | (with_reducible exact ih1 _ _ _ _ _)
      | (with_reducible exact ih2 _ _ _ _ _)
      | (with_reducible exact ih3 _ _ _)
      | (with_reducible exact parse_Flow.mono _ _)
      | (with_reducible exact prompterlaw09_wakes.mono _)
      | (with_reducible exact token_All.mono _ _)
      | (with_reducible exact LeO.refl _)
      | (with_reducible exact LeO.none _)
      | (with_reducible refine LeO.ite ?_ ?_)
      | (with_reducible refine LeO.bind ?_ (fun _ => ?_))
      | exact ih0 _ _
      | exact ih1 _ _ _ _ _
      | exact ih2 _ _ _ _ _
      | exact ih3 _ _ _
      | exact parse_Flow.mono _ _
      | exact prompterlaw09_wakes.mono _
      | exact token_All.mono _ _
      | exact LeO.none _
      | refine LeO.ite ?_ ?_
      | refine LeO.bind ?_ (fun _ => ?_)
theorem prompterlaw09_ParseGoesOn.mono : ∀ a0 a1 k, LeO (prompterlaw09_ParseGoesOn.f k a0 a1) (prompterlaw09_ParseGoesOn.f (k + 1) a0 a1) := by
  intro a0 a1 k
  obtain ⟨ih0, ih1, ih2, ih3⟩ := prompterlaw09_ParseGoesOn.mono_l k
  unfold prompterlaw09_ParseGoesOn.f
  repeat' first
      | (with_reducible exact ih0 _ _)
      | (with_reducible exact ih1 _ _ _ _ _)
      | (with_reducible exact ih2 _ _ _ _ _)
      | (with_reducible exact ih3 _ _ _)
      | (with_reducible exact parse_Flow.mono _ _)
      | (with_reducible exact prompterlaw09_wakes.mono _)
      | (with_reducible exact token_All.mono _ _)
      | (with_reducible exact LeO.refl _)
      | (with_reducible exact LeO.none _)
      | (with_reducible refine LeO.ite ?_ ?_)
      | (with_reducible refine LeO.bind ?_ (fun _ => ?_))
      | exact ih0 _ _
      | exact ih1 _ _ _ _ _
      | exact ih2 _ _ _ _ _
      | exact ih3 _ _ _
      | exact parse_Flow.mono _ _
      | exact prompterlaw09_wakes.mono _
      | exact token_All.mono _ _
      | exact LeO.none _
      | refine LeO.ite ?_ ?_
      | refine LeO.bind ?_ (fun _ => ?_)
set_option maxHeartbeats 8000000 in
set_option maxRecDepth 100000 in
theorem prompterlaw09_ParseGoesOn.calls (k : Nat) (a0 : ByteArray) (a1 : Int) (r : Bool) (w : World) (h : prompterlaw09_ParseGoesOn.f k a0 a1 = some r) :
    Calls Try.prog 12 #[.string a0, .int .i64 a1] w fun e w' => e = .returned (.bool r) ∧ Below w.heap.size w w' := by
  have HB := Aside0.mk (Below.refl w.heap.size w)
  have H : (if (a0.size : Int) > 20000 then (if 0 ≤ 20000 then (if 20000 ≤ (a0.size : Int) then (prompterlaw09_ParseGoesOn.j0 k (a0.extract 0 20000) a1) else (none)) else (none)) else (prompterlaw09_ParseGoesOn.j0 k a0 a1)) = some r := h
  clear h
  have HC3 := Aside0.mk H
  clear H
  go_enter Try.func12, Try.ntmps12
  go_upto_if 16 with (fail)
  go_cut [0] (fun v0 wc => ∃ (kq : Nat) (x0_2 : ByteArray), v0 = .string x0_2 ∧ Aside0 (prompterlaw09_ParseGoesOn.j0 kq x0_2 a1 = some r) ∧ Aside0 (kq ≤ k) ∧ Aside0 (Below w.heap.size w wc))
  case first =>
    have H := HC3.out
    clear HC3
    by_cases c4 : (a0.size : Int) > 20000
    · rw [if_pos c4] at H
      have c4b0 : decide (20000 < (a0.size : Int)) = true := decide_eq_true c4
      have c4b1 : decide (20000 < a0.size) = true := decide_eq_true (by omega)
      clear c4
      (first | rw [c4b0] | (simp only [i64_w, i32_w]; rw [c4b0]) | rw [c4b1] | skip)
      by_cases c5 : 0 ≤ 20000
      · rw [if_pos c5] at H
        have c5b0 := eq_true c5
        have c5b1 : decide (0 ≤ 20000) = true := decide_eq_true c5
        clear c5
        by_cases c6 : 20000 ≤ (a0.size : Int)
        · rw [if_pos c6] at H
          have c6b0 := eq_true c6
          have c6b1 : decide (20000 ≤ (a0.size : Int)) = true := decide_eq_true c6
          clear c6
          have H' := Aside0.mk H
          clear H
          go_wp2
          go_meet
          case rel => exact ⟨_, (a0.extract 0 20000), (by first | rfl | (simp; done) | (simp [*]; done)), H', ⟨by first | omega | exact Nat.le_refl _⟩, ⟨by repeat (first | (with_reducible first | exact HB.out | apply below_alloc | apply pw_below_drewN | apply below_drew1) | exact HB.out)⟩⟩
        · rw [if_neg c6] at H
          exact absurd H (by simp)
      · rw [if_neg c5] at H
        exact absurd H (by simp)
    · rw [if_neg c4] at H
      have c4b0 : decide (20000 < (a0.size : Int)) = false := decide_eq_false c4
      have c4b1 : decide (20000 < a0.size) = false := decide_eq_false (by omega)
      clear c4
      (first | rw [c4b0] | (simp only [i64_w, i32_w]; rw [c4b0]) | rw [c4b1] | skip)
      have H' := Aside0.mk H
      clear H
      go_wp2
      go_meet
      case rel => exact ⟨_, (a0), (by first | rfl | (simp; done) | (simp [*]; done)), H', ⟨by first | omega | exact Nat.le_refl _⟩, ⟨by repeat (first | (with_reducible first | exact HB.out | apply below_alloc | apply pw_below_drewN | apply below_drew1) | exact HB.out)⟩⟩
  case rest =>
    clear HC3
    try clear c1
    try clear p2
    try clear c4
    try clear c4b0
    try clear c4b1
    try clear c5
    try clear c5b0
    try clear c5b1
    try clear c6
    try clear c6b0
    try clear c6b1
    obtain ⟨kq, x0_2, rfl, HA, HJ2, HB⟩ := hcut
    cases kq with
    | zero => exact absurd HA.out (by simp [prompterlaw09_ParseGoesOn.j0])
    | succ kj2 =>
      have H := HA.out
      clear HA
      simp only [prompterlaw09_ParseGoesOn.j0] at H
      replace H := Option.bind_eq_some_iff.mp H
      obtain ⟨⟨t681, t682, t683⟩, A70, H⟩ := H
      replace H : (if t682 < 0 then (prompterlaw09_ParseGoesOn.j1 kj2 x0_2 a1 t682 t683 true) else (if t682 > (x0_2.size : Int) then (prompterlaw09_ParseGoesOn.j1 kj2 x0_2 a1 t682 t683 true) else (if t683 = 4 then (prompterlaw09_ParseGoesOn.j1 kj2 x0_2 a1 t682 t683 (t682 != (x0_2.size : Int))) else (prompterlaw09_ParseGoesOn.j1 kj2 x0_2 a1 t682 t683 false)))) = some r := H
      have A7 := Aside0.mk A70
      clear A70
      have HC8 := Aside0.mk H
      clear H
      go_upto_region 4 with (first | ((with_reducible refine gate_callee (f := 37) rfl ?_); refine goesL_ (some 21) rfl rfl Try.func37 (by kernel_rfl) rfl #[.string x0_2] rfl (by (try simp only [List.map_toArray, List.map_cons, List.map_nil]); first | done | rfl | (simp only [List.length_drop, List.length_take]; rfl)) ?_; (with_reducible refine (parse_Flow.calls kj2 x0_2 t681 t682 t683 _ A7.out).mono ?_); rintro e w9 ⟨v684, rfl, ho0, hb⟩; refine ⟨_, rfl, ?_⟩; have n0_ := Aside0.mk (Kd.R_lower ho0 (below_size (by repeat (first | (with_reducible first | exact HB.out | apply below_alloc | apply pw_below_drewN | apply below_drew1) | exact HB.out)))); have n1_ := Aside0.mk (below_step (by repeat (first | (with_reducible first | exact HB.out | apply below_alloc | apply pw_below_drewN | apply below_drew1) | exact HB.out)) hb); clear HB; have HO685 := n0_; have HB := n1_; clear n0_ n1_; (try clear hb); (try clear hb2); (try clear hk); (try clear hi); (try clear ho0)))
      (try simp only [Act.put, List.setIfInBounds_toArray, List.set_cons_zero, List.set_cons_succ])
      go_cut [42] (fun v42 wc => ∃ (kq : Nat) (x42_7 : Bool), v42 = .bool x42_7 ∧ Aside0 (prompterlaw09_ParseGoesOn.j1 kq x0_2 a1 t682 t683 x42_7 = some r) ∧ Aside0 (kq ≤ kj2) ∧ Aside0 (Below w.heap.size w wc))
      case first =>
        have H := HC8.out
        clear HC8
        by_cases c10 : t682 < 0
        · rw [if_pos c10] at H
          have c10b0 : decide (t682 < 0) = true := decide_eq_true c10
          clear c10
          (first | rw [c10b0] | (simp only [i64_w, i32_w]; rw [c10b0]) | rw [c10b1] | skip)
          have H' := Aside0.mk H
          clear H
          go_wp2
          go_meet
          case rel => exact ⟨_, (true), (by first | rfl | (simp; done) | (simp [*]; done)), H', ⟨by have := HJ2.out; first | omega | exact Nat.le_refl _⟩, ⟨by repeat (first | (with_reducible first | exact HB.out | apply below_alloc | apply pw_below_drewN | apply below_drew1) | exact HB.out)⟩⟩
        · rw [if_neg c10] at H
          have c10b0 : decide (t682 < 0) = false := decide_eq_false c10
          clear c10
          (first | rw [c10b0] | (simp only [i64_w, i32_w]; rw [c10b0]) | rw [c10b1] | skip)
          by_cases c11 : t682 > (x0_2.size : Int)
          · rw [if_pos c11] at H
            have c11b0 : decide ((x0_2.size : Int) < t682) = true := decide_eq_true c11
            clear c11
            have H' := Aside0.mk H
            clear H
            go_wp2
            go_meet
            case rel => exact ⟨_, (true), (by first | rfl | (simp; done) | (simp [*]; done)), H', ⟨by have := HJ2.out; first | omega | exact Nat.le_refl _⟩, ⟨by repeat (first | (with_reducible first | exact HB.out | apply below_alloc | apply pw_below_drewN | apply below_drew1) | exact HB.out)⟩⟩
          · rw [if_neg c11] at H
            have c11b0 : decide ((x0_2.size : Int) < t682) = false := decide_eq_false c11
            clear c11
            by_cases c12 : t683 = 4
            · rw [if_pos c12] at H
              have c12b0 : (t683 == 4) = true := beq_iff_eq.mpr c12
              have c12b1 : (t683 != 4) = false := bne_eq_false_iff_eq.mpr c12
              clear c12
              have H' := Aside0.mk H
              clear H
              go_wp2
              go_meet
              case rel => exact ⟨_, ((t682 != (x0_2.size : Int))), (by first | rfl | (simp; done) | (simp [*]; done)), H', ⟨by have := HJ2.out; first | omega | exact Nat.le_refl _⟩, ⟨by repeat (first | (with_reducible first | exact HB.out | apply below_alloc | apply pw_below_drewN | apply below_drew1) | exact HB.out)⟩⟩
            · rw [if_neg c12] at H
              have c12b0 : (t683 == 4) = false := beq_eq_false_iff_ne.mpr c12
              have c12b1 : (t683 != 4) = true := bne_iff_ne.mpr c12
              have H' := Aside0.mk H
              clear H
              go_wp2
              go_meet
              case rel => exact ⟨_, (false), (by first | rfl | (simp; done) | (simp [*]; done)), H', ⟨by have := HJ2.out; first | omega | exact Nat.le_refl _⟩, ⟨by repeat (first | (with_reducible first | exact HB.out | apply below_alloc | apply pw_below_drewN | apply below_drew1) | exact HB.out)⟩⟩
      case rest =>
        clear HC8
        try clear c1
        try clear p2
        try clear c3
        try clear c4
        try clear c4b0
        try clear c4b1
        try clear c5
        try clear c5b0
        try clear c5b1
        try clear c6
        try clear c6b0
        try clear c6b1
        try clear c10
        try clear c10b0
        try clear c11
        try clear c11b0
        try clear c12
        try clear c12b0
        try clear c12b1
        try clear p2
        obtain ⟨kq, x42_7, rfl, HA, HJ7, HB⟩ := hcut
        cases kq with
        | zero => exact absurd HA.out (by simp [prompterlaw09_ParseGoesOn.j1])
        | succ kj7 =>
          have H := HA.out
          clear HA
          simp only [prompterlaw09_ParseGoesOn.j1] at H
          by_cases c13 : x42_7 = true
          · subst c13
            have H1 : (some false) = some r := by rw [if_pos rfl] at H; exact H
            clear H
            have H := H1
            clear H1
            obtain rfl := Option.some.inj H
            go_wp2
            go_ret
            exact ⟨by first | rfl | (simp [errW_none, errW_some] <;> rfl) | (simp [*, errW_none, errW_some] <;> rfl), by repeat (first | (with_reducible first | exact HB.out | apply below_alloc | apply pw_below_drewN | apply below_drew1) | exact HB.out)⟩
          · replace c13 := Bool.eq_false_iff.mpr c13
            subst c13
            have H1 : (if a1 < 0 then (prompterlaw09_ParseGoesOn.j2 kj7 x0_2 a1 t682 t683 true) else (prompterlaw09_ParseGoesOn.j2 kj7 x0_2 a1 t682 t683 (decide (a1 ≥ (x0_2.size : Int))))) = some r := by rw [if_neg (show ¬ (false = true) by decide)] at H; exact H
            clear H
            have H := H1
            clear H1
            have HC14 := Aside0.mk H
            clear H
            go_upto_region 6 with (fail)
            go_cut [50] (fun v50 wc => ∃ (kq : Nat) (x50_13 : Bool), v50 = .bool x50_13 ∧ Aside0 (prompterlaw09_ParseGoesOn.j2 kq x0_2 a1 t682 t683 x50_13 = some r) ∧ Aside0 (kq ≤ kj7) ∧ Aside0 (Below w.heap.size w wc))
            case first =>
              have H := HC14.out
              clear HC14
              by_cases c15 : a1 < 0
              · rw [if_pos c15] at H
                have c15b0 : decide (a1 < 0) = true := decide_eq_true c15
                clear c15
                (first | rw [c15b0] | (simp only [i64_w, i32_w]; rw [c15b0]) | rw [c15b1] | skip)
                have H' := Aside0.mk H
                clear H
                go_wp2
                go_meet
                case rel => exact ⟨_, (true), (by first | rfl | (simp; done) | (simp [*]; done)), H', ⟨by have := HJ2.out; have := HJ7.out; first | omega | exact Nat.le_refl _⟩, ⟨by repeat (first | (with_reducible first | exact HB.out | apply below_alloc | apply pw_below_drewN | apply below_drew1) | exact HB.out)⟩⟩
              · rw [if_neg c15] at H
                have c15b0 : decide (a1 < 0) = false := decide_eq_false c15
                clear c15
                (first | rw [c15b0] | (simp only [i64_w, i32_w]; rw [c15b0]) | rw [c15b1] | skip)
                have H' := Aside0.mk H
                clear H
                go_wp2
                go_meet
                case rel => exact ⟨_, (decide (a1 ≥ (x0_2.size : Int))), (by first | rfl | (simp; done) | (simp [*]; done)), H', ⟨by have := HJ2.out; have := HJ7.out; first | omega | exact Nat.le_refl _⟩, ⟨by repeat (first | (with_reducible first | exact HB.out | apply below_alloc | apply pw_below_drewN | apply below_drew1) | exact HB.out)⟩⟩
            case rest =>
              clear HC14
              try clear c1
              try clear p2
              try clear c3
              try clear c4
              try clear c4b0
              try clear c4b1
              try clear c5
              try clear c5b0
              try clear c5b1
              try clear c6
              try clear c6b0
              try clear c6b1
              try clear c10
              try clear c10b0
              try clear c11
              try clear c11b0
              try clear c12
              try clear c12b0
              try clear c12b1
              try clear c13
              try clear c15
              try clear c15b0
              try clear p2
              obtain ⟨kq, x50_13, rfl, HA, HJ13, HB⟩ := hcut
              cases kq with
              | zero => exact absurd HA.out (by simp [prompterlaw09_ParseGoesOn.j2])
              | succ kj13 =>
                have H := HA.out
                clear HA
                simp only [prompterlaw09_ParseGoesOn.j2] at H
                by_cases c16 : x50_13 = true
                · subst c16
                  have H1 : ((prompterlaw09_wakes.f kj13).bind fun t686 => (some t686)) = some r := by rw [if_pos rfl] at H; exact H
                  clear H
                  have H := H1
                  clear H1
                  replace H := Option.bind_eq_some_iff.mp H
                  obtain ⟨t686, A170, H⟩ := H
                  replace H : (some t686) = some r := H
                  have A17 := Aside0.mk A170
                  clear A170
                  obtain rfl := Option.some.inj H
                  go_wp2_with (first | ((with_reducible refine gate_callee (f := 36) rfl ?_); refine goesL_ (some 51) rfl rfl Try.func36 (by kernel_rfl) rfl #[] rfl (by (try simp only [List.map_toArray, List.map_cons, List.map_nil]); first | done | rfl | (simp only [List.length_drop, List.length_take]; rfl)) ?_; (with_reducible refine (prompterlaw09_wakes.calls kj13  t686 _ A17.out).mono ?_); rintro e w18 ⟨rfl, hb⟩; refine ⟨_, rfl, ?_⟩; have n0_ := Aside0.mk (below_step (by repeat (first | (with_reducible first | exact HB.out | apply below_alloc | apply pw_below_drewN | apply below_drew1) | exact HB.out)) hb); clear HB; have HB := n0_; clear n0_; (try clear hb); (try clear hb2); (try clear hk); (try clear hi)))
                  go_ret
                  exact ⟨by first | rfl | (simp [errW_none, errW_some] <;> rfl) | (simp [*, errW_none, errW_some] <;> rfl), by repeat (first | (with_reducible first | exact HB.out | apply below_alloc | apply pw_below_drewN | apply below_drew1) | exact HB.out)⟩
                · replace c16 := Bool.eq_false_iff.mpr c16
                  subst c16
                  have H1 : (if 0 ≤ a1 then (if a1 ≤ (x0_2.size : Int) then ((parse_Flow.f kj13 (x0_2.extract 0 (a1 : Int).toNat)).bind fun bt687 => ((token_All.f kj13 x0_2).bind fun bt692 => (if bt692.2.2 = 0 then (if t683 = 9 then (if a1 ≤ t682 then (prompterlaw09_ParseGoesOn.j3 kj13 a1 bt687.2.1 (bt687.2.2 == 9)) else (prompterlaw09_ParseGoesOn.j3 kj13 a1 bt687.2.1 false)) else (prompterlaw09_ParseGoesOn.j3 kj13 a1 bt687.2.1 false)) else (prompterlaw09_ParseGoesOn.j3 kj13 a1 bt687.2.1 false)))) else (none)) else (none)) = some r := by rw [if_neg (show ¬ (false = true) by decide)] at H; exact H
                  clear H
                  have H := H1
                  clear H1
                  by_cases c19 : 0 ≤ a1
                  · rw [if_pos c19] at H
                    have c19b0 := eq_true c19
                    have c19b1 : decide (0 ≤ a1) = true := decide_eq_true c19
                    clear c19
                    by_cases c20 : a1 ≤ (x0_2.size : Int)
                    · rw [if_pos c20] at H
                      have c20b0 := eq_true c20
                      have c20b1 : decide (a1 ≤ (x0_2.size : Int)) = true := decide_eq_true c20
                      clear c20
                      replace H := Option.bind_eq_some_iff.mp H
                      obtain ⟨⟨t687, t688, t689⟩, A210, H⟩ := H
                      replace H : ((token_All.f kj13 x0_2).bind fun bt692 => (if bt692.2.2 = 0 then (if t683 = 9 then (if a1 ≤ t682 then (prompterlaw09_ParseGoesOn.j3 kj13 a1 t688 (t689 == 9)) else (prompterlaw09_ParseGoesOn.j3 kj13 a1 t688 false)) else (prompterlaw09_ParseGoesOn.j3 kj13 a1 t688 false)) else (prompterlaw09_ParseGoesOn.j3 kj13 a1 t688 false))) = some r := H
                      have A21 := Aside0.mk A210
                      clear A210
                      replace H := Option.bind_eq_some_iff.mp H
                      obtain ⟨⟨t692, t693, t694⟩, A220, H⟩ := H
                      replace H : (if t694 = 0 then (if t683 = 9 then (if a1 ≤ t682 then (prompterlaw09_ParseGoesOn.j3 kj13 a1 t688 (t689 == 9)) else (prompterlaw09_ParseGoesOn.j3 kj13 a1 t688 false)) else (prompterlaw09_ParseGoesOn.j3 kj13 a1 t688 false)) else (prompterlaw09_ParseGoesOn.j3 kj13 a1 t688 false)) = some r := H
                      have A22 := Aside0.mk A220
                      clear A220
                      have HC23 := Aside0.mk H
                      clear H
                      go_upto_region 10 with (first | ((with_reducible refine gate_callee (f := 37) rfl ?_); refine goesL_ (some 56) rfl rfl Try.func37 (by kernel_rfl) rfl #[.string (x0_2.extract 0 (a1 : Int).toNat)] rfl (by (try simp only [List.map_toArray, List.map_cons, List.map_nil]); first | done | rfl | (simp only [List.length_drop, List.length_take]; rfl)) ?_; (with_reducible refine (parse_Flow.calls kj13 (x0_2.extract 0 (a1 : Int).toNat) t687 t688 t689 _ A21.out).mono ?_); rintro e w24 ⟨v690, rfl, ho0, hb⟩; refine ⟨_, rfl, ?_⟩; have n0_ := Aside0.mk (Kd.R_lower ho0 (below_size (by repeat (first | (with_reducible first | exact HB.out | apply below_alloc | apply pw_below_drewN | apply below_drew1) | exact HB.out)))); have n1_ := Aside0.mk (below_step (by repeat (first | (with_reducible first | exact HB.out | apply below_alloc | apply pw_below_drewN | apply below_drew1) | exact HB.out)) hb); clear HB; have HO691 := n0_; have HB := n1_; clear n0_ n1_; (try clear hb); (try clear hb2); (try clear hk); (try clear hi); (try clear ho0)) | ((with_reducible refine gate_callee (f := 21) rfl ?_); refine goesL_ (some 62) rfl rfl Try.func21 (by kernel_rfl) rfl #[.string x0_2] rfl (by (try simp only [List.map_toArray, List.map_cons, List.map_nil]); first | done | rfl | (simp only [List.length_drop, List.length_take]; rfl)) ?_; (with_reducible refine (token_All.calls kj13 x0_2 t692 t693 t694 _ A22.out).mono ?_); rintro e w25 ⟨v695, rfl, ho0, hb⟩; refine ⟨_, rfl, ?_⟩; have n0_ := Aside0.mk (Kd.R_below (by (with_reducible repeat (first | apply Kd.R_alloc | apply Kd.R_drewN | apply Kd.R_drew)); exact HO691.out) hb); have n1_ := Aside0.mk (Kd.R_lower ho0 (below_size (by repeat (first | (with_reducible first | exact HB.out | apply below_alloc | apply pw_below_drewN | apply below_drew1) | exact HB.out)))); have n2_ := Aside0.mk (below_step (by repeat (first | (with_reducible first | exact HB.out | apply below_alloc | apply pw_below_drewN | apply below_drew1) | exact HB.out)) hb); clear HO691; clear HB; have HO691 := n0_; have HO696 := n1_; have HB := n2_; clear n0_ n1_ n2_; (try clear hb); (try clear hb2); (try clear hk); (try clear hi); (try clear ho0)))
                      (try simp only [Act.put, List.setIfInBounds_toArray, List.set_cons_zero, List.set_cons_succ])
                      go_cut [80] (fun v80 wc => ∃ (kq : Nat) (x80_22 : Bool), v80 = .bool x80_22 ∧ Aside0 (prompterlaw09_ParseGoesOn.j3 kq a1 t688 x80_22 = some r) ∧ Aside0 (kq ≤ kj13) ∧ Aside0 (Below w.heap.size w wc))
                      case first =>
                        have H := HC23.out
                        clear HC23
                        by_cases c26 : t694 = 0
                        · rw [if_pos c26] at H
                          have c26b0 : (t694 == 0) = true := beq_iff_eq.mpr c26
                          have c26b1 : (t694 != 0) = false := bne_eq_false_iff_eq.mpr c26
                          clear c26
                          (first | rw [c26b0] | (simp only [i64_w, i32_w]; rw [c26b0]) | rw [c26b1] | skip)
                          by_cases c27 : t683 = 9
                          · rw [if_pos c27] at H
                            have c27b0 : (t683 == 9) = true := beq_iff_eq.mpr c27
                            have c27b1 : (t683 != 9) = false := bne_eq_false_iff_eq.mpr c27
                            clear c27
                            by_cases c28 : a1 ≤ t682
                            · rw [if_pos c28] at H
                              have c28b0 : decide (a1 ≤ t682) = true := decide_eq_true c28
                              clear c28
                              have H' := Aside0.mk H
                              clear H
                              go_wp2
                              go_meet
                              case rel => exact ⟨_, ((t689 == 9)), (by first | rfl | (simp; done) | (simp [*]; done)), H', ⟨by have := HJ2.out; have := HJ7.out; have := HJ13.out; first | omega | exact Nat.le_refl _⟩, ⟨by repeat (first | (with_reducible first | exact HB.out | apply below_alloc | apply pw_below_drewN | apply below_drew1) | exact HB.out)⟩⟩
                            · rw [if_neg c28] at H
                              have c28b0 : decide (a1 ≤ t682) = false := decide_eq_false c28
                              clear c28
                              have H' := Aside0.mk H
                              clear H
                              go_wp2
                              go_meet
                              case rel => exact ⟨_, (false), (by first | rfl | (simp; done) | (simp [*]; done)), H', ⟨by have := HJ2.out; have := HJ7.out; have := HJ13.out; first | omega | exact Nat.le_refl _⟩, ⟨by repeat (first | (with_reducible first | exact HB.out | apply below_alloc | apply pw_below_drewN | apply below_drew1) | exact HB.out)⟩⟩
                          · rw [if_neg c27] at H
                            have c27b0 : (t683 == 9) = false := beq_eq_false_iff_ne.mpr c27
                            have c27b1 : (t683 != 9) = true := bne_iff_ne.mpr c27
                            have H' := Aside0.mk H
                            clear H
                            go_wp2
                            go_meet
                            case rel => exact ⟨_, (false), (by first | rfl | (simp; done) | (simp [*]; done)), H', ⟨by have := HJ2.out; have := HJ7.out; have := HJ13.out; first | omega | exact Nat.le_refl _⟩, ⟨by repeat (first | (with_reducible first | exact HB.out | apply below_alloc | apply pw_below_drewN | apply below_drew1) | exact HB.out)⟩⟩
                        · rw [if_neg c26] at H
                          have c26b0 : (t694 == 0) = false := beq_eq_false_iff_ne.mpr c26
                          have c26b1 : (t694 != 0) = true := bne_iff_ne.mpr c26
                          (first | rw [c26b0] | (simp only [i64_w, i32_w]; rw [c26b0]) | rw [c26b1] | skip)
                          have H' := Aside0.mk H
                          clear H
                          go_wp2
                          go_meet
                          case rel => exact ⟨_, (false), (by first | rfl | (simp; done) | (simp [*]; done)), H', ⟨by have := HJ2.out; have := HJ7.out; have := HJ13.out; first | omega | exact Nat.le_refl _⟩, ⟨by repeat (first | (with_reducible first | exact HB.out | apply below_alloc | apply pw_below_drewN | apply below_drew1) | exact HB.out)⟩⟩
                      case rest =>
                        clear HC23
                        try clear c1
                        try clear c2
                        try clear p2
                        try clear c3
                        try clear c4
                        try clear c4b0
                        try clear c4b1
                        try clear c5
                        try clear c5b0
                        try clear c5b1
                        try clear c6
                        try clear c6b0
                        try clear c6b1
                        try clear c10
                        try clear c10b0
                        try clear c11
                        try clear c11b0
                        try clear c12
                        try clear c12b0
                        try clear c12b1
                        try clear c13
                        try clear c15
                        try clear c15b0
                        try clear c16
                        try clear c19
                        try clear c19b0
                        try clear c19b1
                        try clear c20
                        try clear c20b0
                        try clear c20b1
                        try clear c21
                        try clear c26
                        try clear c26b0
                        try clear c26b1
                        try clear c27
                        try clear c27b0
                        try clear c27b1
                        try clear c28
                        try clear c28b0
                        try clear p2
                        obtain ⟨kq, x80_22, rfl, HA, HJ22, HB⟩ := hcut
                        cases kq with
                        | zero => exact absurd HA.out (by simp [prompterlaw09_ParseGoesOn.j3])
                        | succ kj22 =>
                          have H := HA.out
                          clear HA
                          simp only [prompterlaw09_ParseGoesOn.j3] at H
                          by_cases c29 : x80_22 = true
                          · subst c29
                            have H1 : (if t688 ≥ (wrap64 (a1 - 24)) then ((prompterlaw09_wakes.f kj22).bind fun t697 => (some t697)) else (some false)) = some r := by rw [if_pos rfl] at H; exact H
                            clear H
                            have H := H1
                            clear H1
                            by_cases c30 : t688 ≥ (wrap64 (a1 - 24))
                            · rw [if_pos c30] at H
                              have c30b0 : decide ((wrap64 (a1 - 24)) ≤ t688) = true := decide_eq_true c30
                              clear c30
                              replace H := Option.bind_eq_some_iff.mp H
                              obtain ⟨t697, A310, H⟩ := H
                              replace H : (some t697) = some r := H
                              have A31 := Aside0.mk A310
                              clear A310
                              obtain rfl := Option.some.inj H
                              go_wp2_with (first | (go_at_call 36; (with_reducible refine (prompterlaw09_wakes.calls kj22  t697 _ A31.out).mono ?_); rintro e w32 ⟨rfl, hb⟩; have n0_ := Aside0.mk (below_step (by repeat (first | (with_reducible first | exact HB.out | apply below_alloc | apply pw_below_drewN | apply below_drew1) | exact HB.out)) hb); clear HB; have HB := n0_; clear n0_; (try clear hb); (try clear hb2); (try clear hk); (try clear hi)))
                              go_ret
                              exact ⟨by first | rfl | (simp [errW_none, errW_some] <;> rfl) | (simp [*, errW_none, errW_some] <;> rfl), by repeat (first | (with_reducible first | exact HB.out | apply below_alloc | apply pw_below_drewN | apply below_drew1) | exact HB.out)⟩
                            · rw [if_neg c30] at H
                              have c30b0 : decide ((wrap64 (a1 - 24)) ≤ t688) = false := decide_eq_false c30
                              clear c30
                              obtain rfl := Option.some.inj H
                              go_wp2
                              go_ret
                              exact ⟨by first | rfl | (simp [errW_none, errW_some] <;> rfl) | (simp [*, errW_none, errW_some] <;> rfl), by repeat (first | (with_reducible first | exact HB.out | apply below_alloc | apply pw_below_drewN | apply below_drew1) | exact HB.out)⟩
                          · replace c29 := Bool.eq_false_iff.mpr c29
                            subst c29
                            have H1 : (if t688 ≥ 0 then (if t688 ≤ a1 then ((prompterlaw09_wakes.f kj22).bind fun t698 => (some t698)) else (some false)) else (some false)) = some r := by rw [if_neg (show ¬ (false = true) by decide)] at H; exact H
                            clear H
                            have H := H1
                            clear H1
                            by_cases c33 : t688 ≥ 0
                            · rw [if_pos c33] at H
                              have c33b0 : decide (0 ≤ t688) = true := decide_eq_true c33
                              clear c33
                              by_cases c34 : t688 ≤ a1
                              · rw [if_pos c34] at H
                                have c34b0 : decide (t688 ≤ a1) = true := decide_eq_true c34
                                clear c34
                                replace H := Option.bind_eq_some_iff.mp H
                                obtain ⟨t698, A350, H⟩ := H
                                replace H : (some t698) = some r := H
                                have A35 := Aside0.mk A350
                                clear A350
                                obtain rfl := Option.some.inj H
                                go_wp2_with (first | (go_at_call 36; (with_reducible refine (prompterlaw09_wakes.calls kj22  t698 _ A35.out).mono ?_); rintro e w36 ⟨rfl, hb⟩; have n0_ := Aside0.mk (below_step (by repeat (first | (with_reducible first | exact HB.out | apply below_alloc | apply pw_below_drewN | apply below_drew1) | exact HB.out)) hb); clear HB; have HB := n0_; clear n0_; (try clear hb); (try clear hb2); (try clear hk); (try clear hi)))
                                go_ret
                                exact ⟨by first | rfl | (simp [errW_none, errW_some] <;> rfl) | (simp [*, errW_none, errW_some] <;> rfl), by repeat (first | (with_reducible first | exact HB.out | apply below_alloc | apply pw_below_drewN | apply below_drew1) | exact HB.out)⟩
                              · rw [if_neg c34] at H
                                have c34b0 : decide (t688 ≤ a1) = false := decide_eq_false c34
                                clear c34
                                obtain rfl := Option.some.inj H
                                go_wp2
                                go_ret
                                exact ⟨by first | rfl | (simp [errW_none, errW_some] <;> rfl) | (simp [*, errW_none, errW_some] <;> rfl), by repeat (first | (with_reducible first | exact HB.out | apply below_alloc | apply pw_below_drewN | apply below_drew1) | exact HB.out)⟩
                            · rw [if_neg c33] at H
                              have c33b0 : decide (0 ≤ t688) = false := decide_eq_false c33
                              clear c33
                              obtain rfl := Option.some.inj H
                              go_wp2
                              go_ret
                              exact ⟨by first | rfl | (simp [errW_none, errW_some] <;> rfl) | (simp [*, errW_none, errW_some] <;> rfl), by repeat (first | (with_reducible first | exact HB.out | apply below_alloc | apply pw_below_drewN | apply below_drew1) | exact HB.out)⟩
                    · rw [if_neg c20] at H
                      exact absurd H (by simp)
                  · rw [if_neg c19] at H
                    exact absurd H (by simp)
def prompterlaw09_ParseGoesOn.Pure : Prop := ∀ (a0 : ByteArray) (a1 : Int), a0.size ≤ 140737488351232 → (Lit.int .i64 a1).wf = true → ∃ k, prompterlaw09_ParseGoesOn.f k a0 a1 = some true
theorem prompterlaw09_ParseGoesOn.walk (P : prompterlaw09_ParseGoesOn.Pure) (a0 : ByteArray) (a1 : Int) (w : World) (w0 : a0.size ≤ 140737488351232) (w1 : (Lit.int .i64 a1).wf = true) :
    Calls Try.prog 12 #[.string a0, .int .i64 a1] w fun e w' => e = .returned (.bool true) ∧ Below w.heap.size w w' := by
  obtain ⟨k, h⟩ := P a0 a1 w0 w1
  refine (prompterlaw09_ParseGoesOn.calls k a0 a1 true w h).mono ?_
  rintro e w' ⟨rfl, hd⟩
  exact ⟨rfl, hd⟩
end Go.Proofs.Ytlbchdalimngjaa.P
namespace Go.Proofs.Ytlbchdalimngjaa.Pure
open Go.RowKit Go.Proofs.Ytlbchdalimngjaa.P Go.Proofs.YtlbchdalimngjaaW.PrintWords Go.Proofs.YtlbchdalimngjaaW.PrintLast Go.Proofs.Ytlbchdalimngjaa.Lex
set_option linter.unusedVariables false
set_option linter.unusedSimpArgs false
theorem parseWakes : Ev (fun k => prompterlaw09_wakes.f k) true := Ev.of prompterlaw09_wakes.mono (k := 60) (by kernel_rfl)
theorem parseWakes_some : Ev (fun k => (prompterlaw09_wakes.f k).bind fun t => some t) true := Ev.bind parseWakes (Ev.now _)
theorem goes_core (s : ByteArray) (hs : s.size ≤ 20000) (a1 : Int) : Ev (fun k => prompterlaw09_ParseGoesOn.j0 k s a1) true := by
  obtain ⟨r, hr, ho⟩ := flow_out s
  obtain ⟨x1, x2, x3⟩ := ho.at_ flow_LL
  refine Ev.step (f := fun k => (parse_Flow.f k s).bind fun q => (if q.2.1 < 0 then (prompterlaw09_ParseGoesOn.j1 k s a1 q.2.1 q.2.2 true) else (if q.2.1 > (s.size : Int) then (prompterlaw09_ParseGoesOn.j1 k s a1 q.2.1 q.2.2 true) else (if q.2.2 = 4 then (prompterlaw09_ParseGoesOn.j1 k s a1 q.2.1 q.2.2 (q.2.1 != (s.size : Int))) else (prompterlaw09_ParseGoesOn.j1 k s a1 q.2.1 q.2.2 false))))) (fun k => by show prompterlaw09_ParseGoesOn.j0 (k + 1) _ _ = _; rw [prompterlaw09_ParseGoesOn.j0]) (Ev.bind hr ?_)
  refine Ev.congr (f := fun k => prompterlaw09_ParseGoesOn.j1 k s a1 r.2.1 r.2.2 false) (fun k => ?_) ?_
  · rw [if_neg (by omega), if_neg (by omega)]
    by_cases h4 : r.2.2 = 4
    · rw [if_pos h4, x3 h4]
      simp
    · rw [if_neg h4]
  have over : Ev (fun k => prompterlaw09_ParseGoesOn.j2 k s a1 r.2.1 r.2.2 true) true :=
    Ev.step (fun k => by show prompterlaw09_ParseGoesOn.j2 (k + 1) _ _ _ _ _ = _; rw [prompterlaw09_ParseGoesOn.j2, if_pos rfl]) parseWakes_some
  by_cases hneg : a1 < 0
  · exact Ev.step (fun k => by show prompterlaw09_ParseGoesOn.j1 (k + 1) _ _ _ _ _ = _; rw [prompterlaw09_ParseGoesOn.j1, if_neg (by simp), if_pos hneg]) over
  by_cases hge : a1 ≥ (s.size : Int)
  · exact Ev.step (fun k => by show prompterlaw09_ParseGoesOn.j1 (k + 1) _ _ _ _ _ = _; rw [prompterlaw09_ParseGoesOn.j1, if_neg (by simp), if_neg hneg, decide_eq_true hge]) over
  obtain ⟨n, rfl⟩ : ∃ n : Nat, a1 = (n : Int) := ⟨a1.toNat, by omega⟩
  refine Ev.step (f := fun k => prompterlaw09_ParseGoesOn.j2 k s (n : Int) r.2.1 r.2.2 false) (fun k => by show prompterlaw09_ParseGoesOn.j1 (k + 1) _ _ _ _ _ = _; rw [prompterlaw09_ParseGoesOn.j1, if_neg (by simp), if_neg hneg, decide_eq_false hge]) ?_
  have hs' : (s.extract 0 ((n : Int)).toNat).data.toList = s.data.toList.take n := by
    have := ext_is (s := s) (i := 0) (l := s.data.toList) (by simp) n
    rw [Nat.zero_add] at this
    rw [Int.toNat_natCast, this]
  obtain ⟨r', hr', ho'⟩ := flow_out (s.extract 0 ((n : Int)).toNat)
  obtain ⟨y1, y2, _⟩ := ho'.at_ flow_LL
  have hsz : (s.extract 0 ((n : Int)).toNat).size = n := by rw [← size_list, hs', List.length_take, size_list]; omega
  rw [hsz] at y2
  have ha := all_is s
  refine Ev.step (f := fun k => (parse_Flow.f k (s.extract 0 ((n : Int)).toNat)).bind fun q => ((token_All.f k s).bind fun p => (if p.2.2 = 0 then (if r.2.2 = 9 then (if (n : Int) ≤ r.2.1 then (prompterlaw09_ParseGoesOn.j3 k (n : Int) q.2.1 (q.2.2 == 9)) else (prompterlaw09_ParseGoesOn.j3 k (n : Int) q.2.1 false)) else (prompterlaw09_ParseGoesOn.j3 k (n : Int) q.2.1 false)) else (prompterlaw09_ParseGoesOn.j3 k (n : Int) q.2.1 false)))) (fun k => by show prompterlaw09_ParseGoesOn.j2 (k + 1) _ _ _ _ _ = _; rw [prompterlaw09_ParseGoesOn.j2, if_neg (by simp), if_pos (by omega), if_pos (by omega)]) (Ev.bind hr' (Ev.bind ha ?_))
  have fin : ∀ b : Bool, (b = true → (n : Int) - 24 ≤ r'.2.1) → Ev (fun k => prompterlaw09_ParseGoesOn.j3 k (n : Int) r'.2.1 b) true := by
    intro b hb
    cases b with
    | true =>
      have hb := hb rfl
      have hw : wrap64 ((n : Int) - 24) = (n : Int) - 24 := by unfold wrap64; omega
      exact Ev.step (fun k => by show prompterlaw09_ParseGoesOn.j3 (k + 1) _ _ _ = _; rw [prompterlaw09_ParseGoesOn.j3, if_pos rfl, hw, if_pos (by omega)]) parseWakes_some
    | false => exact Ev.step (fun k => by show prompterlaw09_ParseGoesOn.j3 (k + 1) _ _ _ = _; rw [prompterlaw09_ParseGoesOn.j3, if_neg (by simp), if_pos (by omega), if_pos (by omega)]) parseWakes_some
  cases hl : lexAll s.data.toList with
  | error pe =>
    obtain ⟨p, e⟩ := pe
    have he := lexAll_bad hl
    exact Ev.congr (fun k => if_neg (show ¬ (e : Int) = 0 by omega)) (fin false (fun h => by cases h))
  | ok T =>
    refine Ev.congr (fun k => if_pos rfl) ?_
    by_cases h9 : r.2.2 = 9
    · by_cases hc : (n : Int) ≤ r.2.1
      · refine Ev.congr (fun k => (if_pos h9).trans (if_pos hc)) (fin _ (fun h => ?_))
        exact ho.cut flow_mono flow_LL hl h9 (by omega) hc hs' ho' (by simpa using h)
      · exact Ev.congr (fun k => (if_pos h9).trans (if_neg hc)) (fin false (fun h => by cases h))
    · exact Ev.congr (fun k => if_neg h9) (fin false (fun h => by cases h))
theorem ParseGoesOn : prompterlaw09_ParseGoesOn.Pure := by
  intro a0 a1 hs hw
  refine Ev.rounds ?_
  by_cases h : (a0.size : Int) > 20000
  · refine Ev.congr (fun k => (if_pos h).trans ((if_pos (by decide)).trans (if_pos (by omega)))) (goes_core (a0.extract 0 20000) ?_ a1)
    rw [ByteArray.size_extract]
    omega
  · exact Ev.congr (fun k => if_neg h) (goes_core a0 (by omega) a1)
end Go.Proofs.Ytlbchdalimngjaa.Pure
namespace Go.Proofs.Ytlbchdalimngjaa.parseGoesOn
open Go.ChangeShapes Go.WideShapes Go.ChangeAt Go.RowKit
open Go.ChangeMaps (open_string shut_string)
set_option linter.unusedVariables false
theorem own : ownKnob Try.prog.godebug = none := by kernel_rfl
set_option maxRecDepth 100000 in
theorem lifted (os : Os) (started : os.Started) (H : Type) (enc : TypeId × Value → H) :
    ReturnsInHanded {} Try.checked os 12 .any (Rows.parseGoesOnSpec.pre6 enc Try.prog Try.f12 Rows.parseGoesOnRow.domain false) (Rows.parseGoesOnSpec.post enc Try.prog Try.f12 false true false false) := by
  refine returnsInHanded_of_change_sized (C := Try.checked) own started (by kernel_rfl) Try.func12
    (ChangeSpec.witness6 (enc := enc) (C := Try.checked) false ⟨#[], #[.string ByteArray.empty, .int .i64 0], []⟩ 8 (by kernel_rfl) (by kernel_rfl) (by kernel_rfl) (by kernel_rfl)) ?_
  intro W base args ds gs before hval0 hW hcnd hsz0 _
  have hsz : (DataW.weightsEach Try.prog (Try.f12.params.toList ++ Rows.parseGoesOnSpec.plain.varTypes Try.prog) (ds ++ gs)).all (· ≤ reachBytes) = true := hsz0
  have hval : ∀ (j : Nat) t v, Try.f12.params[j]? = some t → args[j]? = some v → Value.okWide Try.prog W .any base t v := hval0
  have hW' := hW
  obtain ⟨p, q, hA0, hV, rfl, hfz, hnd⟩ := hW
  have hA : DataW.TrodAll enc Try.prog W 0 (fun _ => true) true Try.f12.params.toList args.toList ds p := hA0
  rw [Try.params12] at hA hval hsz
  obtain ⟨v0, vs0, d0, ds0, p0, q0, hargs, rfl, rfl, h0, r0⟩ := trodAll_cons hA
  obtain ⟨v1, vs1, d1, ds1, p1, q1, rfl, rfl, rfl, h1, r1⟩ := trodAll_cons r0
  obtain ⟨rfl, rfl, rfl⟩ := trodAll_nil r1
  obtain rfl : args = #[v0, v1] := by cases args; simp_all
  obtain ⟨rfl, rfl⟩ := trodVars_none hV
  obtain ⟨a0, rfl, rfl, rfl, y0⟩ := open_string Try.underlying9 (hval 0 9 v0 rfl rfl) h0
  have w0 : a0.size ≤ 140737488351232 := by
    have z := sized_string hsz (j := 0) (t := 9) rfl rfl
    rw [Array.length_toList] at z
    exact z
  obtain ⟨a1, rfl, rfl, rfl, w1⟩ := open_int Try.underlying3 (hval 1 3 v1 rfl rfl) h1
  clear hA0 hval0 hsz0 hsz
  refine (P.prompterlaw09_ParseGoesOn.walk Pure.ParseGoesOn a0 a1 W w0 w1).mono fun e W' ⟨he, bel⟩ => ?_
  subst he
  exact ⟨_, rfl, _, _, _, [], _, [], hW', trodAll_mk1 (shut_bool Try.underlying4 _), (trodAll_cons_mk (shut_string Try.underlying9 y0) (trodAll_cons_mk (shut_int Try.underlying3 w1) trodAll_mk0)), rfl, bel.frame _, fun h => by cases h⟩
theorem over : Rows.parseGoesOnRow.holds Try.pinned (OpenSpec.ofChange Rows.parseGoesOnSpec) :=
  OpenClaim.holds_of_wide 12 Try.f12 rfl rfl rfl rfl rfl rfl rfl ⟨rfl, rfl, rfl, rfl, rfl⟩ rfl rfl rfl rfl rfl (by kernel_rfl) Try.func12 (by kernel_rfl)
    (of_decide_eq_true (by kernel_rfl)) (by unfold Func.isWrapper; first | (rw [if_pos (by decide +kernel)]; kernel_rfl) | (rw [if_neg (by decide +kernel)]; exact ⟨rfl, rfl⟩))
    (fun os started H enc _ => lifted os started H enc)
theorem proved : Rows.ParseGoesOnSaid := over
end Go.Proofs.Ytlbchdalimngjaa.parseGoesOn
namespace Go.Proofs.Ytlbchdalimngjaa
theorem parseGoesOn_holds : Rows.ParseGoesOnSaid := parseGoesOn.proved
end Go.Proofs.Ytlbchdalimngjaa
