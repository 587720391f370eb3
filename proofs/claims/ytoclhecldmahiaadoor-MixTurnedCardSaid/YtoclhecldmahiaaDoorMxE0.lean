/-
  Mix: words; two exchange.
-/
import Derived.Test.YtoclhecldmahiaaDoorMxA
import Derived.Test.YtoclhecldmahiaaDoorM1Fns
set_option linter.unusedVariables false
set_option linter.unusedVariables false
set_option linter.unusedSimpArgs false
namespace Go.Proofs.YtoclhecldmahiaaDoor
open Go.Lf Go.RowKit

theorem rqOf_list {T : List Tm} {x c : Nat} {n : Int} {rest : List Int} (hx : T[x]? = some ⟨9, 0, (c : Int) :: rest⟩) (hc : T[c]? = some ⟨2, n, []⟩) (hl : 1 ≤ rest.length) : rqOf T x = rqWord n rest := by
  unfold rqOf
  rw [tmAt_of hx]
  show (if (9 : Int) ≠ 9 then _ else if ((c : Int) :: rest).length < 2 then _ else if (tmAt T (c : Int)).kind ≠ 2 then _ else rqWord (tmAt T (c : Int)).n _) = _
  rw [tmAt_of hc, if_neg (by decide), if_neg (by simp; omega), if_neg (fun h => h rfl)]
  rfl
theorem err_list {T : List Tm} {xs : List Int} (hl : xs.length ≤ 400) (hx : ∀ x ∈ xs, inT T x) : errOf T ⟨9, 0, xs⟩ = 0 := errOk (by simp) (by simp) (.inr rfl) (by simp [least]) (by simpa [mostOf] using hl) hx
theorem put_list {T : List Tm} {xs : List Int} (hl : xs.length ≤ 400) (hx : ∀ x ∈ xs, inT T x) (hT : T.length ≤ 1000000) : ∃ y : Nat, (put T ⟨9, 0, xs⟩).2.1 = y ∧ (put T ⟨9, 0, xs⟩).2.2 = 0 ∧ (put T ⟨9, 0, xs⟩).1[y]? = some ⟨9, 0, xs⟩ ∧ Grown T (put T ⟨9, 0, xs⟩).1 1 := by
  obtain ⟨y, h1, h2, h3⟩ := putAt (err_list hl hx) (by omega)
  exact ⟨y, h1, h2, h3, Grown.put _ (by simp)⟩
theorem put_plain' {T : List Tm} {k n : Int} (hk : k = 1 ∨ k = 2) (hn : 0 ≤ n) (hn2 : n ≤ 9223372036854775807) (hl : T.length ≤ 1000000) : ∃ x : Nat, (put T ⟨k, n, []⟩).2.1 = x ∧ (put T ⟨k, n, []⟩).2.2 = 0 ∧ (put T ⟨k, n, []⟩).1[x]? = some ⟨k, n, []⟩ ∧ Grown T (put T ⟨k, n, []⟩).1 1 := by
  have he : errOf T ⟨k, n, []⟩ = 0 := errOk (by simp; omega) hn (.inl (by rcases hk with rfl | rfl <;> simp [numbered])) (by rcases hk with rfl | rfl <;> simp [least]) (by simp) (by simp)
  obtain ⟨x, h1, h2, h3⟩ := putAt he (by omega)
  exact ⟨x, h1, h2, h3, Grown.put _ hn2⟩

theorem wakes24 {W w : World} {R : List Asn} (h : At W w R) : CallsV Tryd.prog n_trystlaw24_wakes #[] w fun v w' => v = .bool true ∧ At W w' R := by
  refine trystlaw24_wakes.lift ?_
  unfold trystlaw24_wakes.main
  refine (new_at h).mono ?_
  rintro _ w1 ⟨p, rfl, h1⟩
  refine ⟨_, rfl, cond_f' rfl ?_⟩
  refine (mk0 2 73 h1 (by omega)).mono ?_
  rintro _ w2 ⟨rfl, h2⟩
  have p1 : put [] ⟨2, 73, []⟩ = ([⟨2, 73, []⟩], 0, 0) := by decide
  simp -zeta only [p1] at h2 ⊢
  refine ⟨_, _, rfl, (mk0 1 1 h2 (by omega)).mono ?_⟩
  rintro _ w3 ⟨rfl, h3⟩
  have p2 : put [⟨2, 73, []⟩] ⟨1, 1, []⟩ = ([⟨2, 73, []⟩, ⟨1, 1, []⟩], 1, 0) := by decide
  simp -zeta only [p2] at h3 ⊢
  refine ⟨_, _, rfl, (mk0 1 2 h3 (by omega)).mono ?_⟩
  rintro _ w4 ⟨rfl, h4⟩
  have p3 : put [⟨2, 73, []⟩, ⟨1, 1, []⟩] ⟨1, 2, []⟩ = ([⟨2, 73, []⟩, ⟨1, 1, []⟩, ⟨1, 2, []⟩], 2, 0) := by decide
  simp -zeta only [p3] at h4 ⊢
  refine ⟨_, _, rfl, (mk0 1 3 h4 (by omega)).mono ?_⟩
  rintro _ w5 ⟨rfl, h5⟩
  have p4 : put [⟨2, 73, []⟩, ⟨1, 1, []⟩, ⟨1, 2, []⟩] ⟨1, 3, []⟩ = ([⟨2, 73, []⟩, ⟨1, 1, []⟩, ⟨1, 2, []⟩, ⟨1, 3, []⟩], 3, 0) := by decide
  simp -zeta only [p4] at h5 ⊢
  refine ⟨_, _, rfl, ?_⟩
  intro w6
  refine (mk 9 0 [0, 1, 2] h5 (by omega) (by simp)).mono ?_
  rintro _ w7 ⟨rfl, h7⟩
  have p5 : put [⟨2, 73, []⟩, ⟨1, 1, []⟩, ⟨1, 2, []⟩, ⟨1, 3, []⟩] ⟨9, 0, [0, 1, 2]⟩ = ([⟨2, 73, []⟩, ⟨1, 1, []⟩, ⟨1, 2, []⟩, ⟨1, 3, []⟩, ⟨9, 0, [0, 1, 2]⟩], 4, 0) := by decide
  simp -zeta only [p5] at h7 ⊢
  refine ⟨_, _, rfl, ?_⟩
  intro w8
  refine (mk 9 0 [0, 1, 3] h7 (by omega) (by simp)).mono ?_
  rintro _ w9 ⟨rfl, h9⟩
  have p6 : put [⟨2, 73, []⟩, ⟨1, 1, []⟩, ⟨1, 2, []⟩, ⟨1, 3, []⟩, ⟨9, 0, [0, 1, 2]⟩] ⟨9, 0, [0, 1, 3]⟩ = ([⟨2, 73, []⟩, ⟨1, 1, []⟩, ⟨1, 2, []⟩, ⟨1, 3, []⟩, ⟨9, 0, [0, 1, 2]⟩, ⟨9, 0, [0, 1, 3]⟩], 5, 0) := by decide
  simp -zeta only [p6] at h9 ⊢
  refine ⟨_, _, rfl, ?_⟩
  intro w10
  have h10 : At W w10 (ownA ⟨some (newA w9), 2, 2⟩ [4, 5] :: arT p [⟨2, 73, []⟩, ⟨1, 1, []⟩, ⟨1, 2, []⟩, ⟨1, 3, []⟩, ⟨9, 0, [0, 1, 2]⟩, ⟨9, 0, [0, 1, 3]⟩] :: R) := h9.row [4, 5] (by simp)
  have e0 : doErr [⟨2, 73, []⟩, ⟨1, 1, []⟩, ⟨1, 2, []⟩, ⟨1, 3, []⟩, ⟨9, 0, [0, 1, 2]⟩, ⟨9, 0, [0, 1, 3]⟩] [] [4, 5] = 0 := by decide +kernel
  have e1 : (doT [⟨2, 73, []⟩, ⟨1, 1, []⟩, ⟨1, 2, []⟩, ⟨1, 3, []⟩, ⟨9, 0, [0, 1, 2]⟩, ⟨9, 0, [0, 1, 3]⟩] [] [4, 5]).2 = [3, 2] := by decide +kernel
  refine (do_at h10.swap (s1 := ⟨none, 0, 0⟩) (rs := []) (s2 := ⟨some (newA w9), 2, 2⟩) (l := [4, 5]) (by simp) (by simp) (by simp) (fun L w' hs => Regs.nil _) (rowsI 0 rfl (by simp))).mono ?_
  rintro _ w11 ⟨t1, t2, rfl, hgood, _⟩
  have h11 := hgood e0
  rw [e1] at h11
  rw [e0]
  have hl := h11.numLen 1 rfl
  have hl : t2.len = 2 := hl
  obtain ⟨q0, hq0, hc0⟩ := h11.num 1 rfl (i := 0) (by simp)
  obtain ⟨q1, hq1, hc1⟩ := h11.num 1 rfl (i := 1) (by simp)
  refine ⟨_, _, _, _, _, _, _, rfl, cond_t rfl (cond_t (by rw [hl]; rfl) ⟨by omega, by omega, q0, hq0, _, hc0, cond_t rfl ⟨by omega, by omega, q1, hq1, _, hc1, rfl, ?_⟩⟩)⟩
  exact h11.drop.drop.drop.drop


end Go.Proofs.YtoclhecldmahiaaDoor

/-
  Registers: read in, compared.
-/
set_option linter.unusedVariables false
set_option linter.unusedSimpArgs false
namespace Go.Proofs.YtoclhecldmahiaaDoor
open Go.Lf Go.RowKit

/-! the law -/


end Go.Proofs.YtoclhecldmahiaaDoor
