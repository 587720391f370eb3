/-
  RatchetPast.
-/
import Derived.Test.YtoclhecldmahiaaDoorRaE
import Derived.Test.YtoclhecldmahiaaDoorR2Fns
import Derived.Test.YtoclhecldmahiaaDoorKnH
set_option linter.unusedVariables false
set_option linter.unusedVariables false
set_option linter.unusedSimpArgs false
namespace Go.Proofs.YtoclhecldmahiaaDoor
open Go.Lf Go.RowKit

/-! which keys are known -/

theorem ch_kd {n x : Nat} (h : x < 2 * n + 1) : kd (chT n) x = (chAt x).kind := kd_of (chT_at h)
theorem ch_ar {n x : Nat} (h : x < 2 * n + 1) : ar (chT n) x = (chAt x).args.map Int.toNat := ar_of (chT_at h)
theorem ch_key {n i : Nat} (h : i < n) : kd (chT n) (2 * i + 1) = 4 ∧ ar (chT n) (2 * i + 1) = [2 * i] := by
  rw [ch_kd (by omega), ch_ar (by omega), chAt_key]
  exact ⟨rfl, by simp; omega⟩
theorem ch_next {n i : Nat} (h : i < n) : kd (chT n) (2 * (i + 1)) = 4 ∧ ar (chT n) (2 * (i + 1)) = [2 * i] := by
  rw [ch_kd (by omega), ch_ar (by omega), show 2 * (i + 1) = 2 * i + 2 by omega, chAt_next]
  exact ⟨rfl, by simp; omega⟩
theorem ch_kinds (n x : Nat) : kd (chT n) x = 0 ∨ kd (chT n) x = 1 ∨ kd (chT n) x = 4 := by
  rcases Nat.lt_or_ge x (2 * n + 1) with h | h
  · rw [ch_kd h]
    unfold chAt
    split
    · exact .inr (.inl rfl)
    · split <;> exact .inr (.inr rfl)
  · exact .inl (kd_out (by rw [chT_len]; exact h))

theorem past_known {n nx : Nat} {J : List Nat} (hJ : RS nx J) (hn : nx ≤ n) {S : Nat → Prop} (hS : ∀ i, S i ↔ i = 2 * nx ∨ ∃ j ∈ J, i = 2 * j + 1) {i : Nat} (hi : i < n) : Kn (chT n) S (2 * i + 1) ↔ nx ≤ i ∨ i ∈ J := by
  constructor
  · intro hk
    refine Classical.byContradiction fun hno => ?_
    have hno : i < nx ∧ i ∉ J := ⟨by omega, fun h => hno (.inr h)⟩
    refine Kn.avoid (fun x => (∃ k, k < nx ∧ x = 2 * k) ∨ ∃ k, k < nx ∧ k ∉ J ∧ x = 2 * k + 1) ?_ ?_ ?_ ?_ ?_ ?_ _ hk (.inr ⟨i, hno.1, hno.2, rfl⟩)
    · rintro x hx hb
      rcases (hS x).1 hx with rfl | ⟨j, hj, rfl⟩
      · rcases hb with ⟨k, h1, h2⟩ | ⟨k, h1, h2, h3⟩ <;> omega
      · rcases hb with ⟨k, h1, h2⟩ | ⟨k, h1, h2, h3⟩
        · omega
        · rw [show k = j by omega] at h2; exact h2 hj
    · rintro x hx (⟨k, h1, rfl⟩ | ⟨k, h1, h2, rfl⟩)
      · cases k with
        | zero => left; rw [ch_kd (by omega)]; rfl
        | succ k =>
          right
          rw [(ch_next (show k < n by omega)).2]
          exact ⟨2 * k, by simp, .inl ⟨k, by omega, rfl⟩⟩
      · right
        rw [(ch_key (show k < n by omega)).2]
        exact ⟨2 * k, by simp, .inl ⟨k, by omega, rfl⟩⟩
    · intro x _ h; have := ch_kinds n x; omega
    · intro x _ h; have := ch_kinds n x; omega
    · intro x _ h; have := ch_kinds n x; omega
    · intro x _ h; have := ch_kinds n x; omega
  · have chain : ∀ d, nx + d ≤ n → Kn (chT n) S (2 * (nx + d)) := by
      intro d
      induction d with
      | zero => exact fun _ => .start ((hS _).2 (.inl rfl))
      | succ d ih =>
        intro hd
        obtain ⟨k1, k2⟩ := ch_next (show nx + d < n by omega)
        refine .made (by rw [chT_len]; omega) (by rw [show nx + (d + 1) = nx + d + 1 by omega, k1]; decide) fun x hx => ?_
        rw [show nx + (d + 1) = nx + d + 1 by omega, k2, List.mem_singleton] at hx
        rw [hx]; exact ih (by omega)
    rintro (h | h)
    · obtain ⟨k1, k2⟩ := ch_key hi
      refine .made (by rw [chT_len]; omega) (by rw [k1]; decide) fun x hx => ?_
      rw [k2, List.mem_singleton] at hx
      rw [hx]
      have := chain (i - nx) (by omega)
      rwa [show nx + (i - nx) = i by omega] at this
    · exact .start ((hS _).2 (.inr ⟨i, h, rfl⟩))

def toldR (nx : Nat) (J : List Nat) : List Int := ((2 * nx : Nat) : Int) :: J.map fun j => ((2 * j + 1 : Nat) : Int)

section
variable {W w : World} {L R : List Asn} {p : Addr} {n nx t : Nat} {J : List Nat} {s : Sl}

theorem takeR_any (h : At W w (arT p (chT n) :: R)) (hj : RS nx J) (hnm : nx ≤ n) (hm : n ≤ 150) (hK : KeptK W R s (skK J)) (ht : t < n) :
    CallsV Tryd.prog n_ratchet_Take #[.pointer (some p), rtV ((2 * nx : Nat) : Int) nx s, .int .i64 (t : Int)] w fun v w' => ∃ (key c nn e : Int) (s' : Sl), v = .tuple #[.int .i64 key, rtV c nn s', .int .i64 e] ∧
      ((e = 0 ∧ ∃ nx' J', c = ((2 * nx' : Nat) : Int) ∧ nn = (nx' : Int) ∧ RS nx' J' ∧ nx' ≤ n ∧ At W w' (kyA s' (skK J') :: arT p (chT n) :: R)) ∨ (e ≠ 0 ∧ At W w' (arT p (chT n) :: R))) := by
  have hmax : max n (t + 1) = n := Nat.max_eq_left (by omega)
  by_cases hon : nx ≤ t
  · refine (takeR_on h hj hnm (by omega) hK (n := t) hon (by omega)).mono ?_
    rintro _ w7 ⟨s', rfl, h7⟩
    rw [hmax] at h7
    exact ⟨_, _, _, _, _, rfl, .inl ⟨rfl, t + 1, _, rfl, rfl, hj.further hon, ht, h7⟩⟩
  by_cases hin : t ∈ J
  · refine (takeR_old h hj hnm (by omega) hK (n := t) (by omega) hin).mono ?_
    rintro _ w7 ⟨s', ix, hix, rfl, h7⟩
    exact ⟨_, _, _, _, _, rfl, .inl ⟨rfl, nx, _, rfl, rfl, hj.erase ix, hnm, h7⟩⟩
  · refine (takeR_gone h hj hnm (by omega) hK (n := t) (by omega) hin).mono ?_
    rintro _ w7 ⟨rfl, h7⟩
    exact ⟨_, _, _, _, ⟨none, 0, 0⟩, rfl, .inr ⟨by decide, h7⟩⟩

set_option maxRecDepth 100000 in
theorem past_spec {W : World} (hT : PT W.heap.size W) {ts : Sl} {takes : List Int} (hI : IntsW W ts takes) (n0 : Int) :
    CallsV Tryd.prog n_trystlaw19_RatchetPast #[.int .i64 n0, .slice ts.a ts.len ts.cap] W fun v w' => v = .bool true ∧ Below W.heap.size W w' := by
  refine trystlaw19_RatchetPast.lift ?_
  unfold trystlaw19_RatchetPast.main
  refine cond_d (fun _ => ⟨rfl, Below.refl _ _⟩) fun hn0 => cond_d (fun _ => ⟨rfl, Below.refl _ _⟩) fun hn1 => cond_d (fun _ => ⟨rfl, Below.refl _ _⟩) fun ht1 => ?_
  have hlen := hI.i.len
  generalize hRR : (fun (v : Value) (w' : World) => v = .bool true ∧ Below W.heap.size W w') = RR
  obtain ⟨n, rfl⟩ := Int.eq_ofNat_of_zero_le (by omega : 0 ≤ n0)
  unfold trystlaw19_RatchetPast.c11
  refine (new_at (At.start hT)).mono ?_
  rintro _ w1 ⟨p, rfl, h1⟩
  refine ⟨_, rfl, cond_f' rfl ?_⟩
  refine (mk0 1 1 h1 (by omega)).mono ?_
  rintro _ w2 ⟨rfl, h2⟩
  have p2 : put [] ⟨1, 1, []⟩ = (chT 0, 0, 0) := by decide
  rw [p2] at h2 ⊢
  refine ⟨_, _, rfl, cond_n (fun h => absurd rfl h) fun _ => (rnew_at h2 0).mono ?_⟩
  rintro _ w3 ⟨rfl, h3⟩
  refine ⟨_, _, _, _, _, rfl, ?_⟩
  intro w4
  obtain ⟨k1, k2⟩ := h3.nil.kyNil.tmp 104 (zs := [.int .i64 0, .int .i64 0, .slice none 0 0]) (cs := rtC 0 0 ⟨none, 0, 0⟩) rfl
  refine ⟨k1, ?_⟩
  intro w5
  have h5 : At W w5 [boxA (newA w3) (rtC 0 0 ⟨none, 0, 0⟩), kyA ⟨none, 0, 0⟩ [], ownA ⟨none, 0, 0⟩ (keysL 0), arT p (chT 0)] := k2
  clear_value w5
  generalize newA w3 = sb at h5 ⊢
  unfold trystlaw19_RatchetPast.l10
  refine ⟨fun x w' => ∃ (k : Nat) (s : Sl), x.2 = k ∧ k ≤ n ∧ At W w' [boxA sb (rtC ((2 * k : Nat) : Int) (k : Int) s), kyA s [], ownA x.1 (keysL k), arT p (chT k)], fun x _ => n - x.2.toNat, ⟨0, _, rfl, Nat.zero_le _, h5⟩, ?_⟩
  clear h5 h3 h2 h1 k1 k2
  rintro ⟨ksl, _⟩ w6 ⟨k, s, rfl, hk, h6⟩
  show trystlaw19_RatchetPast.b10 RR _ (n : Int) ts (some p) 0 sb ksl (k : Int) w6
  unfold trystlaw19_RatchetPast.b10
  refine cond_d (p := (k : Int) < (n : Int)) (fun hlt => ?_) fun hge => ?_
  · refine ⟨_, h6.s.cell0 0 rfl rfl, _, h6.s.cell 0 rfl 1 rfl, _, _, _, h6.s.cell 0 rfl 2 rfl, ?_⟩
    have hK : KeptK W [boxA sb (rtC ((2 * k : Nat) : Int) (k : Int) s), kyA s (skK []), ownA ksl (keysL k)] s (skK []) := KeptK.here.cons
    refine (sendR (h6.front 3 rfl) (RS.nil k) (Nat.le_refl _) (by omega) hK).mono ?_
    rintro _ w7 ⟨s', rfl, h7⟩
    refine ⟨_, _, _, _, _, _, _, _, rfl, ?_⟩
    intro w8
    obtain ⟨k1, k2⟩ := h7.tmp 104 (zs := [.int .i64 0, .int .i64 0, .slice none 0 0]) (cs := rtC ((2 * (k + 1) : Nat) : Int) ((k + 1 : Nat) : Int) s') rfl
    refine ⟨k1, ?_⟩
    intro w9
    have h9 : At W w9 [boxA (newA w7) (rtC ((2 * (k + 1) : Nat) : Int) ((k + 1 : Nat) : Int) s'), kyA s' [], arT p (chT (if k = k then k + 1 else k)), boxA sb (rtC ((2 * k : Nat) : Int) (k : Int) s), kyA s [], ownA ksl (keysL k)] := k2
    rw [if_pos rfl] at h9
    clear_value w9
    generalize newA w7 = nb at h9 ⊢
    refine cond_n (fun h => absurd rfl h) fun _ => ?_
    have h11 := h9.drew
    refine ⟨fun y => y.cell? nb = some (.int .i64 ((2 * (k + 1) : Nat) : Int)) ∧ y.cell? (nb.add 1) = some (.int .i64 ((k + 1 : Nat) : Int)) ∧ y.cell? (nb.add 2) = some (.slice s'.a s'.len s'.cap), ⟨h11.s.cell0 0 rfl rfl, h11.s.cell 0 rfl 1 rfl, h11.s.cell 0 rfl 2 rfl⟩, _, fun y hy => hy.1, _, fun y hy => hy.2.1, _, _, _, fun y hy => hy.2.2, ?_⟩
    intro w12
    have h12 := h11.keep (below_alloc w9.drew (.cells #[.int .i64 ((2 * k + 1 : Nat) : Int)] 3))
    refine ⟨⟨h12.s.cell0 0 rfl rfl, h12.s.cell 0 rfl 1 rfl, h12.s.cell 0 rfl 2 rfl⟩, ?_⟩
    obtain ⟨s13, w13, r13, h13⟩ := more_at 5 rfl h11 ((2 * k + 1 : Nat) : Int) (by rw [keysL_len]; omega)
    rw [← keysL_succ] at h13
    refine ⟨_, _, _, w13, r13, ⟨h13.s.cell0 0 rfl rfl, h13.s.cell 0 rfl 1 rfl, h13.s.cell 0 rfl 2 rfl⟩, ?_⟩
    have h13 : At W w13 [boxA nb (rtC ((2 * (k + 1) : Nat) : Int) ((k + 1 : Nat) : Int) s'), kyA s' [], arT p (chT (k + 1)), boxA sb (rtC ((2 * k : Nat) : Int) (k : Int) s), kyA s [], ownA s13 (keysL (k + 1))] := h13
    obtain ⟨m1, m2⟩ := h13.set3 3 rfl (.int .i64 ((2 * (k + 1) : Nat) : Int)) (.int .i64 ((k + 1 : Nat) : Int)) (.slice s'.a s'.len s'.cap)
    refine ⟨m1, ?_⟩
    dsimp only
    rw [inc (by omega)]
    refine ⟨⟨rfl, rfl, rfl, rfl, rfl, k + 1, s', rfl, by omega, ?_⟩, by omega⟩
    have m2 : At W _ [boxA nb (rtC ((2 * (k + 1) : Nat) : Int) ((k + 1 : Nat) : Int) s'), kyA s' [], arT p (chT (k + 1)), boxA sb (rtC ((2 * (k + 1) : Nat) : Int) ((k + 1 : Nat) : Int) s'), kyA s [], ownA s13 (keysL (k + 1))] := m2
    have m3 : At W _ [kyA s' [], arT p (chT (k + 1)), boxA sb (rtC ((2 * (k + 1) : Nat) : Int) ((k + 1 : Nat) : Int) s'), ownA s13 (keysL (k + 1))] := (m2.less 4 rfl).drop
    have m4 : At W _ [boxA sb (rtC ((2 * (k + 1) : Nat) : Int) ((k + 1 : Nat) : Int) s'), kyA s' [], arT p (chT (k + 1)), ownA s13 (keysL (k + 1))] := m3.front 2 rfl
    exact m4.perm (.cons _ (.cons _ (.swap _ _ _)))
  · have hkn : k = n := by omega
    subst hkn
    unfold trystlaw19_RatchetPast.c9
    refine (rnew_at h6 0).mono ?_
    rintro _ w7 ⟨rfl, h7⟩
    refine ⟨_, _, _, _, _, rfl, ?_⟩
    intro w8
    obtain ⟨k1, k2⟩ := h7.drop.drop.kyNil.tmp 104 (zs := [.int .i64 0, .int .i64 0, .slice none 0 0]) (cs := rtC 0 0 ⟨none, 0, 0⟩) rfl
    refine ⟨k1, ?_⟩
    intro w9
    have h9 : At W w9 [boxA (newA w7) (rtC 0 0 ⟨none, 0, 0⟩), kyA ⟨none, 0, 0⟩ [], ownA ksl (keysL k), arT p (chT k)] := k2
    clear_value w9
    generalize newA w7 = rb at h9 ⊢
    unfold trystlaw19_RatchetPast.l8
    refine ⟨fun x w' => ∃ (i nx : Nat) (J : List Nat) (s : Sl), x = i ∧ i ≤ takes.length ∧ RS nx J ∧ nx ≤ k ∧ At W w' [boxA rb (rtC ((2 * nx : Nat) : Int) (nx : Int) s), kyA s (skK J), ownA ksl (keysL k), arT p (chT k)], fun x _ => takes.length - x.toNat,
      ⟨0, 0, [], _, rfl, Nat.zero_le _, RS.nil 0, Nat.zero_le _, h9⟩, ?_⟩
    clear h9 h7 h6 k1 k2
    rintro _ w12 ⟨i, nx, J, s, rfl, hi, hJ, hnx, h12⟩
    unfold trystlaw19_RatchetPast.b8
    have hJl := hJ.len
    refine cond_d (p := (i : Int) < ((ts.len : Nat) : Int)) (fun hlt => ?_) fun hge => ?_
    · have hil : i < takes.length := by omega
      have h13 := h12.drew
      obtain ⟨q, hq, hc⟩ := (h13.ints hI.i).get (i := (i : Int)) (by omega) (by omega)
      obtain ⟨eu, t, ht, et⟩ := um_nat (n := k) (by omega) (by omega) (takes[((i : Int)).toNat]?.getD 0)
      have hK : KeptK W [boxA rb (rtC ((2 * nx : Nat) : Int) (nx : Int) s), kyA s (skK J), ownA ksl (keysL k)] s (skK J) := KeptK.here.cons
      have hint : ∀ {y : World} {L : List Asn}, At W y L → y.cell? (q.add (i : Int).toNat) = some (.int .i64 (takes[((i : Int)).toNat]?.getD 0)) := by
        intro y L hy
        obtain ⟨q', hq', hc'⟩ := (hy.ints hI.i).get (i := (i : Int)) (by omega) (by omega)
        rw [hq] at hq'
        obtain rfl := Option.some.inj hq'
        exact hc'
      refine ⟨fun y => y.cell? rb = some (.int .i64 ((2 * nx : Nat) : Int)) ∧ y.cell? (rb.add 1) = some (.int .i64 (nx : Int)) ∧ y.cell? (rb.add 2) = some (.slice s.a s.len s.cap) ∧ y.cell? (q.add (i : Int).toNat) = some (.int .i64 (takes[((i : Int)).toNat]?.getD 0)), ⟨h13.s.cell0 0 rfl rfl, h13.s.cell 0 rfl 1 rfl, h13.s.cell 0 rfl 2 rfl, hint h13⟩,
        _, fun y hy => hy.1, _, fun y hy => hy.2.1, _, _, _, fun y hy => hy.2.2.1, by omega, by omega, q, hq, _, fun y hy => hy.2.2.2, by rw [eu]; omega, ?_⟩
      rw [eu, et]
      have fin : ∀ (w8 : World) (nb : Addr) (c nn e : Int) (s' : Sl) (hb : ∃ L, At W w8 (boxA nb (rtC c nn s') :: L)), ((e = 0 ∧ ∃ nx' J', c = ((2 * nx' : Nat) : Int) ∧ nn = (nx' : Int) ∧ RS nx' J' ∧ nx' ≤ k ∧ At W w8 [boxA nb (rtC c nn s'), kyA s' (skK J'), arT p (chT k), boxA rb (rtC ((2 * nx : Nat) : Int) (nx : Int) s), kyA s (skK J), ownA ksl (keysL k)]) ∨
          (e ≠ 0 ∧ At W w8 [boxA nb (rtC c nn s'), arT p (chT k), boxA rb (rtC ((2 * nx : Nat) : Int) (nx : Int) s), kyA s (skK J), ownA ksl (keysL k)])) →
          cond ((e : Int) == 0)
            (∃ x_54 : Int, w8.cell? nb = some (.int .i64 x_54) ∧
            ∃ x_55 : Int, w8.cell? (nb.add 1) = some (.int .i64 x_55) ∧
            ∃ (a_56 : Option Addr) (l_57 c_58 : Nat), w8.cell? (nb.add 2) = some (.slice a_56 l_57 c_58) ∧
            (∀ j, j < 3 → Wr w8 (rb.add j)) ∧
            (let w9 := setCells rb [.int .i64 x_54, .int .i64 x_55, .slice a_56 l_57 c_58] 0 w8;
            (let i16_58 : Int := (IntKind.i64.wrap ((i : Int) + 1));
            (((k : Int) = k ∧ ts = ts ∧ some p = some p ∧ ksl = ksl ∧ rb = rb ∧ (∃ (i nx : Nat) (J : List Nat) (s : Sl), i16_58 = i ∧ i ≤ takes.length ∧ RS nx J ∧ nx ≤ k ∧ At W w9 [boxA rb (rtC ((2 * nx : Nat) : Int) (nx : Int) s), kyA s (skK J), ownA ksl (keysL k), arT p (chT k)])) ∧ takes.length - i16_58.toNat < takes.length - (i : Int).toNat))))
            (let i16_59 : Int := (IntKind.i64.wrap ((i : Int) + 1));
            (((k : Int) = k ∧ ts = ts ∧ some p = some p ∧ ksl = ksl ∧ rb = rb ∧ (∃ (i nx : Nat) (J : List Nat) (s : Sl), i16_59 = i ∧ i ≤ takes.length ∧ RS nx J ∧ nx ≤ k ∧ At W w8 [boxA rb (rtC ((2 * nx : Nat) : Int) (nx : Int) s), kyA s (skK J), ownA ksl (keysL k), arT p (chT k)])) ∧ takes.length - i16_59.toNat < takes.length - (i : Int).toNat)) := by
        rintro w8 nb c nn e s' ⟨L, hb⟩ hcase
        dsimp only
        rw [inc (by omega)]
        refine cond_e (fun he => ?_) fun he => ?_
        · rcases hcase with ⟨_, nx', J', rfl, rfl, hJ', hnx', h8⟩ | ⟨hne, _⟩
          · refine ⟨_, h8.s.cell0 0 rfl rfl, _, h8.s.cell 0 rfl 1 rfl, _, _, _, h8.s.cell 0 rfl 2 rfl, ?_⟩
            obtain ⟨m1, m2⟩ := h8.set3 3 rfl (.int .i64 ((2 * nx' : Nat) : Int)) (.int .i64 (nx' : Int)) (.slice s'.a s'.len s'.cap)
            refine ⟨m1, ⟨rfl, rfl, rfl, rfl, rfl, i + 1, nx', J', s', rfl, by omega, hJ', hnx', ?_⟩, by omega⟩
            have m3 : At W _ [kyA s' (skK J'), arT p (chT k), boxA rb (rtC ((2 * nx' : Nat) : Int) (nx' : Int) s'), ownA ksl (keysL k)] := (m2.less 4 rfl).drop
            have m4 : At W _ [boxA rb (rtC ((2 * nx' : Nat) : Int) (nx' : Int) s'), kyA s' (skK J'), arT p (chT k), ownA ksl (keysL k)] := m3.front 2 rfl
            exact m4.perm (.cons _ (.cons _ (.swap _ _ _)))
          · exact absurd he hne
        · rcases hcase with ⟨h0, _⟩ | ⟨_, h8⟩
          · exact absurd h0 he
          · refine ⟨⟨rfl, rfl, rfl, rfl, rfl, i + 1, nx, J, s, rfl, by omega, hJ, hnx, ?_⟩, by omega⟩
            have h9 : At W w8 [arT p (chT k), boxA rb (rtC ((2 * nx : Nat) : Int) (nx : Int) s), kyA s (skK J), ownA ksl (keysL k)] := h8.drop
            exact ((h9.front 3 rfl).front 3 rfl).front 3 rfl
      refine ⟨?_, ?_⟩
      · refine (takeR_any (h13.front 3 rfl) hJ hnx (by omega) hK ht).mono ?_
        rintro _ w7 ⟨key, c, nn, e, s', rfl, hcase⟩
        refine ⟨_, _, _, _, _, _, _, rfl, ?_⟩
        intro w8
        obtain ⟨L, hL⟩ : ∃ L, At W w7 L := by rcases hcase with ⟨_, _, _, _, _, _, _, h⟩ | ⟨_, h⟩ <;> exact ⟨_, h⟩
        obtain ⟨k1, k2⟩ := hL.tmp 104 (zs := [.int .i64 0, .int .i64 0, .slice none 0 0]) (cs := rtC c nn s') rfl
        refine ⟨k1, fin _ _ c nn e s' ⟨_, k2⟩ ?_⟩
        rcases hcase with ⟨he, nx', J', e1, e2, hJ', hnx', h8⟩ | ⟨hne, h8⟩
        · exact .inl ⟨he, nx', J', e1, e2, hJ', hnx', (h8.tmp 104 (zs := [.int .i64 0, .int .i64 0, .slice none 0 0]) (cs := rtC c nn s') rfl).2⟩
        · exact .inr ⟨hne, (h8.tmp 104 (zs := [.int .i64 0, .int .i64 0, .slice none 0 0]) (cs := rtC c nn s') rfl).2⟩
      · intro w10
        have h14 : At W w10 (boxA (newA w12.drew) [.int .i64 0, .int .i64 0, .slice none 0 0] :: [boxA rb (rtC ((2 * nx : Nat) : Int) (nx : Int) s), kyA s (skK J), ownA ksl (keysL k), arT p (chT k)]) := h13.box 104 [.int .i64 0, .int .i64 0, .slice none 0 0]
        clear_value w10
        generalize newA w12.drew = nb at h14 ⊢
        refine ⟨⟨h14.s.cell0 1 rfl rfl, h14.s.cell 1 rfl 1 rfl, h14.s.cell 1 rfl 2 rfl, hint h14⟩, ?_⟩
        refine (takeR_any (h14.front 4 rfl) hJ hnx (by omega) hK.cons ht).mono ?_
        rintro _ w7 ⟨key, c, nn, e, s', rfl, hcase⟩
        refine ⟨_, _, _, _, _, _, _, rfl, ?_⟩
        rcases hcase with ⟨he, nx', J', e1, e2, hJ', hnx', h8⟩ | ⟨hne, h8⟩
        · obtain ⟨m1, m2⟩ := h8.set3 2 rfl (.int .i64 c) (.int .i64 nn) (.slice s'.a s'.len s'.cap)
          have m3 : At W _ [boxA nb (rtC c nn s'), kyA s' (skK J'), arT p (chT k), boxA rb (rtC ((2 * nx : Nat) : Int) (nx : Int) s), kyA s (skK J), ownA ksl (keysL k)] := m2.front 2 rfl
          exact ⟨m1, fin _ nb c nn e s' ⟨_, m3⟩ (.inl ⟨he, nx', J', e1, e2, hJ', hnx', m3⟩)⟩
        · obtain ⟨m1, m2⟩ := h8.set3 1 rfl (.int .i64 c) (.int .i64 nn) (.slice s'.a s'.len s'.cap)
          have m3 : At W _ [boxA nb (rtC c nn s'), arT p (chT k), boxA rb (rtC ((2 * nx : Nat) : Int) (nx : Int) s), kyA s (skK J), ownA ksl (keysL k)] := m2.front 1 rfl
          exact ⟨m1, fin _ nb c nn e s' ⟨_, m3⟩ (.inr ⟨hne, m3⟩)⟩
    · unfold trystlaw19_RatchetPast.c7
      have hskl : ∀ {y : World}, At W y [boxA rb (rtC ((2 * nx : Nat) : Int) (nx : Int) s), kyA s (skK J), ownA ksl (keysL k), arT p (chT k)] → s.len = J.length := fun hy => by rw [(hy.kys 1 rfl).len, skK_len]
      have hsl := hskl h12
      refine ⟨_, h12.s.cell0 0 rfl rfl, ?_⟩
      intro w13
      have h13 : At W w13 (ownA ⟨some (newA w12), 1, 1⟩ (toldR nx (J.take 0)) :: [boxA rb (rtC ((2 * nx : Nat) : Int) (nx : Int) s), kyA s (skK J), ownA ksl (keysL k), arT p (chT k)]) := by
        have := h12.row [((2 * nx : Nat) : Int)] (by simp)
        exact this
      clear_value w13
      generalize (⟨some (newA w12), 1, 1⟩ : Sl) = tsl at h13 ⊢
      unfold trystlaw19_RatchetPast.l6
      refine ⟨fun x w' => ∃ i : Nat, x.2 = i ∧ i ≤ J.length ∧ At W w' (ownA x.1 (toldR nx (J.take i)) :: [boxA rb (rtC ((2 * nx : Nat) : Int) (nx : Int) s), kyA s (skK J), ownA ksl (keysL k), arT p (chT k)]), fun x _ => J.length - x.2.toNat, ⟨0, rfl, Nat.zero_le _, h13⟩, ?_⟩
      clear h13
      rintro ⟨tsl, _⟩ w14 ⟨i, rfl, hi, h14⟩
      show trystlaw19_RatchetPast.b6 RR _ (k : Int) (some p) ksl rb tsl (i : Int) w14
      have h14 : At W w14 (ownA tsl (toldR nx (J.take i)) :: [boxA rb (rtC ((2 * nx : Nat) : Int) (nx : Int) s), kyA s (skK J), ownA ksl (keysL k), arT p (chT k)]) := h14
      unfold trystlaw19_RatchetPast.b6
      have htl : ∀ m, (toldR nx (J.take m)).length ≤ 1000 := fun m => by
        unfold toldR; rw [List.length_cons, List.length_map, List.length_take]; omega
      refine ⟨_, _, _, h14.s.cell 1 rfl 2 rfl, cond_d (p := (i : Int) < ((s.len : Nat) : Int)) (fun hlt => ?_) fun hge => ?_⟩
      · have hiJ : i < J.length := by omega
        obtain ⟨a, ha, c1, c2⟩ := (h14.kys 2 rfl).cell i (kyJ J[i]) (by unfold skK; rw [List.getElem?_map, List.getElem?_eq_getElem hiJ]; rfl)
        refine ⟨_, _, _, h14.s.cell 1 rfl 2 rfl, by omega, by omega, a, ha, _, by rw [Int.toNat_natCast]; exact c2, ?_⟩
        intro w15
        obtain ⟨s16, w16, r16, h16⟩ := more_at 0 rfl h14 (kyJ J[i]).2 (by have := htl i; omega)
        refine ⟨_, _, _, w16, r16, ?_⟩
        dsimp only
        rw [inc (by omega)]
        refine ⟨⟨rfl, rfl, rfl, rfl, i + 1, rfl, by omega, ?_⟩, by omega⟩
        have e : toldR nx (J.take (i + 1)) = toldR nx (J.take i) ++ [(kyJ J[i]).2] := by
          unfold toldR
          rw [List.take_succ_eq_append_getElem hiJ, List.map_append]
          rfl
        show At W w16 (ownA s16 (toldR nx (J.take (i + 1))) :: _)
        rw [e]
        exact h16
      · have hij : i = J.length := by omega
        subst hij
        rw [List.take_length] at h14
        have htl0 : (toldR nx J).length ≤ 1000 := by have := htl J.length; rwa [List.take_length] at this
        unfold trystlaw19_RatchetPast.c5
        have hall : ∀ x ∈ toldR nx J, inT (chT k) x := by
          intro x hx
          unfold toldR at hx
          unfold inT
          rw [chT_len]
          rw [List.mem_cons] at hx
          rcases hx with rfl | hx
          · omega
          · obtain ⟨j, hj, rfl⟩ := List.mem_map.1 hx
            have := hJ.lt j hj
            omega
        refine (all_at (h14.front 4 rfl) (s := tsl) (xs := toldR nx J) (by omega) fun L w' hs => rowNow 0 rfl hs.dropL.s (by omega)).mono ?_
        rintro _ w15 ⟨s15, bs, rfl, h15, hbs, _⟩
        obtain ⟨hbl, hbk⟩ := hbs hall
        rw [if_pos hall]
        rw [chT_len] at hbl
        have hkn : ∀ i, i < k → (bs[2 * i + 1]?.getD false = true ↔ nx ≤ i ∨ i ∈ J) := by
          intro i hi
          rw [hbk]
          refine past_known hJ hnx (fun x => ?_) hi
          unfold toldR
          rw [List.mem_cons, List.mem_map]
          constructor
          · rintro (h | ⟨j, hj, h⟩)
            · exact .inl (by omega)
            · exact .inr ⟨j, hj, by omega⟩
          · rintro (h | ⟨j, hj, h⟩)
            · exact .inl (by omega)
            · exact .inr ⟨j, hj, by omega⟩
        have h16 : At W w15 (boolA s15 bs :: [boxA rb (rtC ((2 * nx : Nat) : Int) (nx : Int) s), kyA s (skK J), ownA ksl (keysL k)]) := ((h15.less 1 rfl).less 1 rfl)
        clear h15
        refine ⟨_, _, _, _, rfl, cond_n (fun h => absurd rfl h) fun _ => ?_⟩
        unfold trystlaw19_RatchetPast.l2
        refine ⟨fun x w' => ∃ i : Nat, x = i ∧ i ≤ k ∧ At W w' (boolA s15 bs :: [boxA rb (rtC ((2 * nx : Nat) : Int) (nx : Int) s), kyA s (skK J), ownA ksl (keysL k)]), fun x _ => k - x.toNat, ⟨0, rfl, Nat.zero_le _, h16⟩, ?_⟩
        clear h16
        rintro _ w17 ⟨i, rfl, hi, h17⟩
        unfold trystlaw19_RatchetPast.b2
        refine cond_d (p := (i : Int) < (k : Int)) (fun hlt => ?_) fun hge => ?_
        · have hik : i < k := by omega
          unfold trystlaw19_RatchetPast.l4
          refine ⟨fun x w' => ∃ j : Nat, x.2 = j ∧ j ≤ J.length ∧ x.1 = decide (i ∈ J.take j) ∧ At W w' (boolA s15 bs :: [boxA rb (rtC ((2 * nx : Nat) : Int) (nx : Int) s), kyA s (skK J), ownA ksl (keysL k)]), fun x _ => J.length - x.2.toNat, ⟨0, rfl, Nat.zero_le _, by simp, h17⟩, ?_⟩
          clear h17
          rintro ⟨_, _⟩ w18 ⟨j, rfl, hj, rfl, h18⟩
          show trystlaw19_RatchetPast.b4 RR _ _ (k : Int) ksl rb s15 (i : Int) (decide (i ∈ J.take j)) (j : Int) w18
          unfold trystlaw19_RatchetPast.b4
          refine ⟨_, _, _, h18.s.cell 1 rfl 2 rfl, cond_d (p := (j : Int) < ((s.len : Nat) : Int)) (fun hlt => ?_) fun hge => ?_⟩
          · have hjJ : j < J.length := by omega
            have etk : ∀ b, b = decide (i ∈ J.take (j + 1)) ↔ b = (decide (i ∈ J.take j) || decide (J[j] = i)) := fun b => by
              rw [List.take_succ_eq_append_getElem hjJ]
              simp only [List.mem_append, List.mem_singleton, Bool.decide_or]
              rw [show decide (i = J[j]) = decide (J[j] = i) from by congr 1; exact propext eq_comm]
            refine cond_c (fun hin => ?_) fun hin => ?_
            · dsimp only
              rw [inc (by omega)]
              exact ⟨⟨rfl, rfl, rfl, rfl, rfl, j + 1, rfl, by omega, (etk _).2 (by rw [hin]; rfl), h18⟩, by omega⟩
            · obtain ⟨a, ha, c1, c2⟩ := (h18.kys 2 rfl).cell j (kyJ J[j]) (by unfold skK; rw [List.getElem?_map, List.getElem?_eq_getElem hjJ]; rfl)
              refine ⟨_, _, _, h18.s.cell 1 rfl 2 rfl, by omega, by omega, a, ha, _, by rw [Int.toNat_natCast]; exact c1, ?_⟩
              dsimp only
              rw [inc (by omega)]
              refine ⟨⟨rfl, rfl, rfl, rfl, rfl, j + 1, rfl, by omega, (etk _).2 ?_, h18⟩, by omega⟩
              rw [hin, Bool.false_or]
              show ((J[j] : Int) == (i : Int)) = _
              by_cases e : J[j] = i
              · rw [e]; simp
              · rw [decide_eq_false e, beq_eq_false_iff_ne]; omega
          · have hjl : j = J.length := by omega
            subst hjl
            rw [List.take_length]
            unfold trystlaw19_RatchetPast.c3
            obtain ⟨q, hq, hc⟩ := h18.num 3 rfl (i := i) (by rw [keysL_len]; exact hik)
            rw [keysL_at hik] at hc
            have hkl : ksl.len = k := by rw [h18.numLen 3 rfl, keysL_len]
            have hsl5 : s15.len = 2 * k + 1 := by rw [(h18.s.rowLen 0 rfl).1, hbl]
            obtain ⟨q2, hq2, hc2⟩ := h18.s.boolAt 0 rfl (j := 2 * i + 1) (by omega)
            refine ⟨by omega, by omega, q, hq, _, by rw [Int.toNat_natCast]; exact hc, by omega, by omega, q2, hq2, _, by rw [Int.toNat_natCast]; exact hc2, _, h18.s.cell 1 rfl 1 rfl, ?_⟩
            have hk' := hkn i hik
            have nxt : ∀ x : Int, x = ((i + 1 : Nat) : Int) → ((k : Int) = k ∧ ksl = ksl ∧ rb = rb ∧ s15 = s15 ∧ ∃ i : Nat, x = i ∧ i ≤ k ∧ At W w18.drew (boolA s15 bs :: [boxA rb (rtC ((2 * nx : Nat) : Int) (nx : Int) s), kyA s (skK J), ownA ksl (keysL k)])) ∧ k - x.toNat < k - (i : Int).toNat := by
              rintro _ rfl
              exact ⟨⟨rfl, rfl, rfl, rfl, i + 1, rfl, by omega, h18.drew⟩, by omega⟩
            refine cond_d (fun hge' => ?_) fun hlt' => ?_
            · rw [hk'.2 (.inl (by omega))]
              exact cond_f' rfl (nxt _ (inc (by omega)))
            · have eb : bs[2 * i + 1]?.getD false = decide (i ∈ J) := by
                rw [Bool.eq_iff_iff, hk', decide_eq_true_iff]
                exact ⟨fun h => h.elim (fun h => by omega) id, .inr⟩
              rw [eb]
              exact cond_f' (by simp) (nxt _ (inc (by omega)))
        · unfold trystlaw19_RatchetPast.c1
          refine (wakes19 h17).mono ?_
          rintro _ w19 ⟨rfl, h19⟩
          exact ⟨true, rfl, by rw [← hRR]; exact ⟨rfl, h19.b⟩⟩
end

end Go.Proofs.YtoclhecldmahiaaDoor
