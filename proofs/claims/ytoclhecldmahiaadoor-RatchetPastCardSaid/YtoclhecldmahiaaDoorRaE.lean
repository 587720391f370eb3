/-
  RatchetMeets.
-/
import Derived.Test.YtoclhecldmahiaaDoorRaD
import Derived.Test.YtoclhecldmahiaaDoorTmI
set_option linter.unusedVariables false
set_option linter.unusedVariables false
set_option linter.unusedSimpArgs false
namespace Go.Proofs.YtoclhecldmahiaaDoor
open Go.Lf Go.RowKit

/-! who has taken what -/

theorem sorted_few {x b : Nat} : ∀ {D : List Nat}, D.Pairwise (· < ·) → (∀ d ∈ D, x < d ∧ d < b) → D = [] ∨ D.length + x < b
  | [], _, _ => .inl rfl
  | d :: r, hs, h => by
    have hd := h d (by simp)
    have hp := List.pairwise_cons.1 hs
    rcases sorted_few (x := d) (b := b) hp.2 (fun y hy => ⟨hp.1 y hy, (h y (by simp [hy])).2⟩) with h1 | h1
    · subst h1; right; simp; omega
    · right; simp; omega

theorem tail_gone {L : List Nat} {b a : Nat} (hs : L.Pairwise (· < ·)) (hb : ∀ x ∈ L, x < b) (ha : a ∈ L) (hn : a ∉ tailJ L) : a + 16 < b := by
  unfold tailJ at hn
  rw [← List.take_append_drop (L.length - 16) L, List.mem_append] at ha
  rcases ha with ha | ha
  · have hlen : 16 ≤ L.length := by
      rcases Nat.lt_or_ge L.length 16 with h | h
      · rw [show L.length - 16 = 0 by omega] at ha; simp at ha
      · exact h
    have hs' := hs
    rw [← List.take_append_drop (L.length - 16) L, List.pairwise_append] at hs'
    rcases sorted_few (x := a) (b := b) hs'.2.1 (fun d hd => ⟨hs'.2.2 a ha d hd, hb d (List.mem_of_mem_drop hd)⟩) with h1 | h1
    · have := congrArg List.length h1
      rw [List.length_drop] at this
      simp at this; omega
    · rw [List.length_drop] at h1; omega
  · exact absurd ha hn

structure RM (n nx : Nat) (J : List Nat) (tk : List Bool) : Prop where
  rs : RS nx J
  le : nx ≤ n
  len : tk.length = n
  t1 : ∀ a : Nat, tk[a]? = some true → a < nx ∧ a ∉ J
  t2 : ∀ a : Nat, tk[a]? = some false → a < nx → a ∉ J → a + 16 < nx

theorem RM.start (n : Nat) : RM n 0 [] (List.replicate n false) :=
  ⟨RS.nil 0, Nat.zero_le _, by simp, fun a h => by rw [List.getElem?_replicate] at h; split at h <;> simp at h, fun a _ h => absurd h (Nat.not_lt_zero _)⟩

theorem set_true {tk : List Bool} {t a : Nat} (h : (tk.set t true)[a]? = some true) : a = t ∨ tk[a]? = some true := by
  rw [List.getElem?_set] at h
  split at h
  · exact .inl (by omega)
  · exact .inr h
theorem set_false {tk : List Bool} {t a : Nat} (h : (tk.set t true)[a]? = some false) : a ≠ t ∧ tk[a]? = some false := by
  rw [List.getElem?_set] at h
  split at h
  · split at h <;> simp at h
  · exact ⟨by omega, h⟩

theorem RM.on {n nx t : Nat} {J : List Nat} {tk : List Bool} (h : RM n nx J tk) (ht : nx ≤ t) (htn : t < n) : RM n (t + 1) (tailJ (J ++ wayJ nx t)) (tk.set t true) := by
  refine ⟨h.rs.further ht, htn, by rw [List.length_set]; exact h.len, fun a ha => ?_, fun a ha hlt hJ => ?_⟩
  · rcases set_true ha with rfl | ha
    · refine ⟨by omega, fun hm => ?_⟩
      have := way_lt h.rs ht _ (List.mem_of_mem_drop hm)
      omega
    · obtain ⟨h1, h2⟩ := h.t1 a ha
      refine ⟨by omega, fun hm => ?_⟩
      have hm := List.mem_of_mem_drop hm
      rw [List.mem_append] at hm
      rcases hm with hm | hm
      · exact h2 hm
      · unfold wayJ at hm; rw [List.mem_range'_1] at hm; omega
  · obtain ⟨hne, ha⟩ := set_false ha
    by_cases hin : a ∈ J ++ wayJ nx t
    · have := tail_gone (way_sorted h.rs) (way_lt h.rs ht) hin hJ
      omega
    · have hnx : a < nx := by
        rcases Nat.lt_or_ge a nx with h1 | h1
        · exact h1
        · refine absurd (List.mem_append_right _ ?_) hin
          unfold wayJ; rw [List.mem_range'_1]; omega
      have := h.t2 a ha hnx (fun hm => hin (List.mem_append_left _ hm))
      omega

theorem sorted_erase {J : List Nat} {i t a : Nat} (hs : J.Pairwise (· < ·)) (hi : J[i]? = some t) : a ∈ J.eraseIdx i ↔ a ∈ J ∧ a ≠ t := by
  obtain ⟨hlt, hv⟩ := List.getElem?_eq_some_iff.1 hi
  have inj : ∀ (j : Nat) (hj : j < J.length), J[j] = t → j = i := by
    intro j hj e
    rw [List.pairwise_iff_getElem] at hs
    rcases Nat.lt_trichotomy j i with h | h | h
    · have := hs j i hj hlt h; omega
    · exact h
    · have := hs i j hlt hj h; omega
  rw [List.mem_eraseIdx_iff_getElem]
  constructor
  · rintro ⟨j, hj, hne, rfl⟩
    exact ⟨List.getElem_mem hj, fun e => hne (inj j hj e)⟩
  · rintro ⟨hm, hne⟩
    obtain ⟨j, hj, rfl⟩ := List.getElem_of_mem hm
    exact ⟨j, hj, fun e => by subst e; exact hne hv, rfl⟩

theorem RM.old {n nx t i : Nat} {J : List Nat} {tk : List Bool} (h : RM n nx J tk) (hi : J[i]? = some t) : RM n nx (J.eraseIdx i) (tk.set t true) := by
  have hm := fun a => sorted_erase (a := a) h.rs.sorted hi
  refine ⟨h.rs.erase i, h.le, by rw [List.length_set]; exact h.len, fun a ha => ?_, fun a ha hlt hJ => ?_⟩
  · rcases set_true ha with rfl | ha
    · exact ⟨h.rs.lt a (List.mem_of_getElem? hi), fun hn => ((hm a).1 hn).2 rfl⟩
    · obtain ⟨h1, h2⟩ := h.t1 a ha
      exact ⟨h1, fun hn => h2 ((hm a).1 hn).1⟩
  · obtain ⟨hne, ha⟩ := set_false ha
    exact h.t2 a ha hlt fun hn => hJ ((hm a).2 ⟨hn, hne⟩)

def keysL (k : Nat) : List Int := (List.range k).map fun i => ((2 * i + 1 : Nat) : Int)
theorem keysL_len (k : Nat) : (keysL k).length = k := by simp [keysL]
theorem keysL_at {k i : Nat} (h : i < k) : (keysL k)[i]'(by rw [keysL_len]; exact h) = ((2 * i + 1 : Nat) : Int) := by simp [keysL]
theorem keysL_succ (k : Nat) : keysL (k + 1) = keysL k ++ [((2 * k + 1 : Nat) : Int)] := by
  unfold keysL
  rw [List.range_succ, List.map_append]
  rfl

/-- a number below n, of any number -/
theorem um_nat {n : Nat} (h0 : 1 ≤ n) (hn : n ≤ 1000000) (x : Int) : IntKind.u64.wrap (n : Int) = (n : Int) ∧ ∃ t : Nat, t < n ∧ IntKind.i64.wrap (Int.tmod (IntKind.u64.wrap x) (n : Int)) = (t : Int) := by
  have e : IntKind.u64.wrap (n : Int) = (n : Int) := by rw [IntKind.wrap_u64]; omega
  have hx : 0 ≤ IntKind.u64.wrap x := by
    have := IntKind.wrap_u64 x
    omega
  rw [tmod_nn hx]
  have h1 := Int.emod_nonneg (IntKind.u64.wrap x) (show (n : Int) ≠ 0 by omega)
  have h2 := Int.emod_lt_of_pos (IntKind.u64.wrap x) (show (0 : Int) < n by omega)
  exact ⟨e, ((IntKind.u64.wrap x) % (n : Int)).toNat, by omega, by rw [w64 (by omega)]; omega⟩

section
variable {W w : World} {L R : List Asn}

set_option maxRecDepth 100000 in
theorem rmeets_spec {W : World} (hT : PT W.heap.size W) {ts : Sl} {takes : List Int} (hI : IntsW W ts takes) (n0 : Int) :
    CallsV Tryd.prog n_trystlaw19_RatchetMeets #[.int .i64 n0, .slice ts.a ts.len ts.cap] W fun v w' => v = .bool true ∧ Below W.heap.size W w' := by
  refine trystlaw19_RatchetMeets.lift ?_
  unfold trystlaw19_RatchetMeets.main
  refine cond_d (fun _ => ⟨rfl, Below.refl _ _⟩) fun hn0 => cond_d (fun _ => ⟨rfl, Below.refl _ _⟩) fun hn1 => cond_d (fun _ => ⟨rfl, Below.refl _ _⟩) fun ht1 => ?_
  have hlen := hI.i.len
  generalize hRR : (fun (v : Value) (w' : World) => v = .bool true ∧ Below W.heap.size W w') = RR
  obtain ⟨n, rfl⟩ := Int.eq_ofNat_of_zero_le (by omega : 0 ≤ n0)
  unfold trystlaw19_RatchetMeets.c9
  refine (new_at (At.start hT)).mono ?_
  rintro _ w1 ⟨p, rfl, h1⟩
  refine ⟨_, rfl, cond_f' rfl ?_⟩
  refine (mk0 1 1 h1 (by omega)).mono ?_
  rintro _ w2 ⟨rfl, h2⟩
  have p2 : put [] ⟨1, 1, []⟩ = (chT 0, 0, 0) := by decide
  rw [p2] at h2 ⊢
  refine ⟨_, _, rfl, cond_n (fun h => absurd rfl h) fun _ => (rnew_at h2 0).mono ?_⟩
  rintro _ w3 ⟨rfl, h3⟩
  refine ⟨_, _, _, _, _, rfl, ?_⟩
  intro w4
  obtain ⟨k1, k2⟩ := h3.nil.kyNil.tmp 104 (zs := [.int .i64 0, .int .i64 0, .slice none 0 0]) (cs := rtC 0 0 ⟨none, 0, 0⟩) rfl
  refine ⟨k1, ?_⟩
  intro w5
  have h5 : At W w5 [boxA (newA w3) (rtC 0 0 ⟨none, 0, 0⟩), kyA ⟨none, 0, 0⟩ [], ownA ⟨none, 0, 0⟩ (keysL 0), arT p (chT 0)] := k2
  clear_value w5
  generalize newA w3 = sb at h5 ⊢
  unfold trystlaw19_RatchetMeets.l5
  refine ⟨fun x w' => ∃ (k : Nat) (s : Sl), x.2 = k ∧ k ≤ n ∧ At W w' [boxA sb (rtC ((2 * k : Nat) : Int) (k : Int) s), kyA s [], ownA x.1 (keysL k), arT p (chT k)], fun x _ => n - x.2.toNat, ⟨0, _, rfl, Nat.zero_le _, h5⟩, ?_⟩
  clear h5 h3 h2 h1 k1 k2
  rintro ⟨ksl, _⟩ w6 ⟨k, s, rfl, hk, h6⟩
  show trystlaw19_RatchetMeets.b5 RR _ (n : Int) ts (some p) 0 sb ksl (k : Int) w6
  unfold trystlaw19_RatchetMeets.b5
  refine cond_d (p := (k : Int) < (n : Int)) (fun hlt => ?_) fun hge => ?_
  · refine ⟨_, h6.s.cell0 0 rfl rfl, _, h6.s.cell 0 rfl 1 rfl, _, _, _, h6.s.cell 0 rfl 2 rfl, ?_⟩
    have hK : KeptK W [boxA sb (rtC ((2 * k : Nat) : Int) (k : Int) s), kyA s (skK []), ownA ksl (keysL k)] s (skK []) := KeptK.here.cons
    refine (sendR (h6.front 3 rfl) (RS.nil k) (Nat.le_refl _) (by omega) hK).mono ?_
    rintro _ w7 ⟨s', rfl, h7⟩
    refine ⟨_, _, _, _, _, _, _, _, rfl, ?_⟩
    intro w8
    obtain ⟨k1, k2⟩ := h7.tmp 104 (zs := [.int .i64 0, .int .i64 0, .slice none 0 0]) (cs := rtC ((2 * (k + 1) : Nat) : Int) ((k + 1 : Nat) : Int) s') rfl
    refine ⟨k1, ?_⟩
    intro w9
    have h9 : At W w9 [boxA (newA w7) (rtC ((2 * (k + 1) : Nat) : Int) ((k + 1 : Nat) : Int) s'), kyA s' [], arT p (chT (if k = k then k + 1 else k)), boxA sb (rtC ((2 * k : Nat) : Int) (k : Int) s), kyA s [], ownA ksl (keysL k)] := k2
    rw [if_pos rfl] at h9
    clear_value w9
    generalize newA w7 = nb at h9 ⊢
    refine cond_n (fun h => absurd rfl h) fun _ => cond_n (fun h => absurd rfl h) fun _ => ?_
    unfold trystlaw19_RatchetMeets.c8 trystlaw19_RatchetMeets.l7
    refine ⟨fun x w' => ∃ j : Nat, x = j ∧ j ≤ k ∧ At W w' [boxA nb (rtC ((2 * (k + 1) : Nat) : Int) ((k + 1 : Nat) : Int) s'), kyA s' [], arT p (chT (k + 1)), boxA sb (rtC ((2 * k : Nat) : Int) (k : Int) s), kyA s [], ownA ksl (keysL k)], fun x _ => k - x.toNat, ⟨0, rfl, Nat.zero_le _, h9⟩, ?_⟩
    clear h9 h7 k1 k2 h6 hK
    rintro _ w10 ⟨j, rfl, hj, h10⟩
    unfold trystlaw19_RatchetMeets.b7
    have hkl : ksl.len = k := by rw [h10.numLen 5 rfl, keysL_len]
    refine cond_d (p := (j : Int) < (k : Int)) (fun hjk => ?_) fun hjk => ?_
    · have hjk' : j < k := by omega
      obtain ⟨q, hq, hc⟩ := h10.num 5 rfl (i := j) (by rw [keysL_len]; exact hjk')
      rw [keysL_at hjk'] at hc
      refine ⟨by omega, by omega, q, hq, _, by rw [Int.toNat_natCast]; exact hc, cond_e (fun h => absurd h (by omega)) fun _ => ?_⟩
      dsimp only
      rw [inc (by omega)]
      exact ⟨⟨rfl, rfl, rfl, rfl, rfl, rfl, rfl, rfl, rfl, j + 1, rfl, by omega, h10⟩, by omega⟩
    · unfold trystlaw19_RatchetMeets.c6
      have h11 := h10.drew
      have cells : ∀ {y : World}, (∀ j v, [Value.int .i64 ((2 * (k + 1) : Nat) : Int), .int .i64 ((k + 1 : Nat) : Int), .slice s'.a s'.len s'.cap][j]? = some v → y.cell? (nb.add j) = some v) → y.cell? nb = some (.int .i64 ((2 * (k + 1) : Nat) : Int)) ∧ y.cell? (nb.add 1) = some (.int .i64 ((k + 1 : Nat) : Int)) ∧ y.cell? (nb.add 2) = some (.slice s'.a s'.len s'.cap) :=
        fun h => ⟨by have := h 0 _ rfl; rwa [add_zero] at this, h 1 _ rfl, h 2 _ rfl⟩
      refine ⟨fun y => y.cell? nb = some (.int .i64 ((2 * (k + 1) : Nat) : Int)) ∧ y.cell? (nb.add 1) = some (.int .i64 ((k + 1 : Nat) : Int)) ∧ y.cell? (nb.add 2) = some (.slice s'.a s'.len s'.cap), ⟨h11.s.cell0 0 rfl rfl, h11.s.cell 0 rfl 1 rfl, h11.s.cell 0 rfl 2 rfl⟩, _, fun y hy => hy.1, _, fun y hy => hy.2.1, _, _, _, fun y hy => hy.2.2, ?_⟩
      intro w12
      have h12 := h11.keep (below_alloc w10.drew (.cells #[.int .i64 ((2 * k + 1 : Nat) : Int)] 3))
      refine ⟨⟨h12.s.cell0 0 rfl rfl, h12.s.cell 0 rfl 1 rfl, h12.s.cell 0 rfl 2 rfl⟩, ?_⟩
      obtain ⟨s13, w13, r13, h13⟩ := more_at 5 rfl h11 ((2 * k + 1 : Nat) : Int) (by rw [keysL_len]; omega)
      rw [← keysL_succ] at h13
      refine ⟨_, _, _, w13, r13, ⟨h13.s.cell0 0 rfl rfl, h13.s.cell 0 rfl 1 rfl, h13.s.cell 0 rfl 2 rfl⟩, ?_⟩
      have h13 : At W w13 [boxA nb (rtC ((2 * (k + 1) : Nat) : Int) ((k + 1 : Nat) : Int) s'), kyA s' [], arT p (chT (k + 1)), boxA sb (rtC ((2 * k : Nat) : Int) (k : Int) s), kyA s [], ownA s13 (keysL (k + 1))] := h13
      obtain ⟨m1, m2⟩ := h13.set3 3 rfl (.int .i64 ((2 * (k + 1) : Nat) : Int)) (.int .i64 ((k + 1 : Nat) : Int)) (.slice s'.a s'.len s'.cap)
      refine ⟨m1, ?_⟩
      dsimp only
      rw [inc (by omega)]
      refine ⟨⟨rfl, rfl, rfl, rfl, rfl, k + 1, s', rfl, by omega, ?_⟩, by omega⟩
      have m2 : At W _ [boxA nb (rtC ((2 * (k + 1) : Nat) : Int) ((k + 1 : Nat) : Int) s'), kyA s' [], arT p (chT (k + 1)), boxA sb (rtC ((2 * (k + 1) : Nat) : Int) ((k + 1 : Nat) : Int) s'), kyA s [], ownA s13 (keysL (k + 1))] := m2
      have m3 : At W _ [kyA s' [], arT p (chT (k + 1)), boxA sb (rtC ((2 * (k + 1) : Nat) : Int) ((k + 1 : Nat) : Int) s'), ownA s13 (keysL (k + 1))] := (m2.less 4 rfl).drop
      have m4 : At W _ [boxA sb (rtC ((2 * (k + 1) : Nat) : Int) ((k + 1 : Nat) : Int) s'), kyA s' [], arT p (chT (k + 1)), ownA s13 (keysL (k + 1))] := m3.front 2 rfl
      exact m4.perm (.cons _ (.cons _ (.swap _ _ _)))
  · have hkn : k = n := by omega
    subst hkn
    unfold trystlaw19_RatchetMeets.c4
    refine (rnew_at h6 0).mono ?_
    rintro _ w7 ⟨rfl, h7⟩
    refine ⟨_, _, _, _, _, rfl, ?_⟩
    intro w8
    obtain ⟨k1, k2⟩ := h7.drop.drop.kyNil.tmp 104 (zs := [.int .i64 0, .int .i64 0, .slice none 0 0]) (cs := rtC 0 0 ⟨none, 0, 0⟩) rfl
    refine ⟨k1, ?_⟩
    intro w9
    have h9 : At W w9 [boxA (newA w7) (rtC 0 0 ⟨none, 0, 0⟩), kyA ⟨none, 0, 0⟩ [], ownA ksl (keysL k), arT p (chT k)] := k2
    clear_value w9
    generalize newA w7 = rb at h9 ⊢
    refine ⟨by omega, by omega, by omega, by omega, ?_⟩
    intro w11
    obtain ⟨h11s, b11⟩ := h9.s.bools (n := k) (by omega)
    have h11 : At W w11 [boolA ⟨some (newA w9), k, k⟩ (List.replicate k false), boxA rb (rtC 0 0 ⟨none, 0, 0⟩), kyA ⟨none, 0, 0⟩ [], ownA ksl (keysL k), arT p (chT k)] := h9.go h11s b11
    have etk : (⟨some (newA w9), ((k : Int)).toNat, ((k : Int)).toNat⟩ : Sl) = ⟨some (newA w9), k, k⟩ := rfl
    rw [etk]
    generalize (⟨some (newA w9), k, k⟩ : Sl) = tks at h11 ⊢
    clear_value w11
    unfold trystlaw19_RatchetMeets.l2
    refine ⟨fun x w' => ∃ (i nx : Nat) (J : List Nat) (s : Sl) (tk : List Bool), x = i ∧ i ≤ takes.length ∧ RM k nx J tk ∧ At W w' [boxA rb (rtC ((2 * nx : Nat) : Int) (nx : Int) s), kyA s (skK J), boolA tks tk, ownA ksl (keysL k), arT p (chT k)], fun x _ => takes.length - x.toNat,
      ⟨0, 0, [], _, _, rfl, Nat.zero_le _, RM.start k, (h11.front 2 rfl |>.front 2 rfl)⟩, ?_⟩
    clear h11 h11s h9 h7 h6 k1 k2 b11
    rintro _ w12 ⟨i, nx, J, s, tk, rfl, hi, hM, h12⟩
    unfold trystlaw19_RatchetMeets.b2
    have hnx := hM.le
    have hJl := hM.rs.len
    refine cond_d (p := (i : Int) < ((ts.len : Nat) : Int)) (fun hlt => ?_) fun hge => ?_
    · have hil : i < takes.length := by omega
      obtain ⟨q, hq, hc⟩ := (h12.ints hI.i).get (i := (i : Int)) (by omega) (by omega)
      obtain ⟨eu, t, ht, et⟩ := um_nat (n := k) (by omega) (by omega) (takes[((i : Int)).toNat]?.getD 0)
      refine ⟨by omega, hlt, q, hq, _, hc, by rw [eu]; omega, ?_⟩
      dsimp only
      rw [eu, et]
      refine ⟨_, h12.s.cell0 0 rfl rfl, _, h12.s.cell 0 rfl 1 rfl, _, _, _, h12.s.cell 0 rfl 2 rfl, ?_⟩
      have hK : KeptK W [boxA rb (rtC ((2 * nx : Nat) : Int) (nx : Int) s), kyA s (skK J), boolA tks tk, ownA ksl (keysL k)] s (skK J) := KeptK.here.cons
      have h12' : At W w12 (arT p (chT k) :: [boxA rb (rtC ((2 * nx : Nat) : Int) (nx : Int) s), kyA s (skK J), boolA tks tk, ownA ksl (keysL k)]) := h12.front 4 rfl
      have htkl := hM.len
      have hexcl : t < nx ∧ t ∉ J ∨ (¬ (t < nx ∧ t ∉ J)) := Classical.em _
      have hsl : tks.len = k := by rw [(h12.s.rowLen 2 rfl).1, htkl]
      have hkl : ksl.len = k := by rw [h12.numLen 3 rfl, keysL_len]
      have hmax : max k (t + 1) = k := Nat.max_eq_left (by omega)
      -- what is taken
      have good : ∀ {nx' : Nat} {J' : List Nat} {s' : Sl} {w' : World}, RM k nx' J' (tk.set t true) → tk[t]? = some false → At W w' (kyA s' (skK J') :: arT p (chT k) :: [boxA rb (rtC ((2 * nx : Nat) : Int) (nx : Int) s), kyA s (skK J), boolA tks tk, ownA ksl (keysL k)]) →
          (∀ j, j < 3 → Wr (w'.alloc (.cells #[.int .i64 0, .int .i64 0, .slice none 0 0] 104)) ((newA w').add j)) ∧
          (0 ≤ (t : Int) ∧ (t : Int) < ((tks.len : Nat) : Int) ∧ ∃ q_34 : Addr, tks.a = some q_34 ∧
            ∃ b_35 : Bool, (setCells (newA w') (rtC ((2 * nx' : Nat) : Int) (nx' : Int) s') 0 (w'.alloc (.cells #[.int .i64 0, .int .i64 0, .slice none 0 0] 104))).cell? (q_34.add (t : Int).toNat) = some (.bool b_35) ∧
            cond b_35 (RR (.bool false) (setCells (newA w') (rtC ((2 * nx' : Nat) : Int) (nx' : Int) s') 0 (w'.alloc (.cells #[.int .i64 0, .int .i64 0, .slice none 0 0] 104))))
            (0 ≤ (t : Int) ∧ (t : Int) < ((ksl.len : Nat) : Int) ∧ ∃ q_36 : Addr, ksl.a = some q_36 ∧
            ∃ x_37 : Int, (setCells (newA w') (rtC ((2 * nx' : Nat) : Int) (nx' : Int) s') 0 (w'.alloc (.cells #[.int .i64 0, .int .i64 0, .slice none 0 0] 104))).cell? (q_36.add (t : Int).toNat) = some (.int .i64 x_37) ∧
            cond ((((2 * t + 1 : Nat) : Int)) != x_37) (RR (.bool false) (setCells (newA w') (rtC ((2 * nx' : Nat) : Int) (nx' : Int) s') 0 (w'.alloc (.cells #[.int .i64 0, .int .i64 0, .slice none 0 0] 104))))
            (trystlaw19_RatchetMeets.c3 RR (fun n0' takes1' a5' keys9' r16' taken17' i18' w' => (n0' = (k : Int) ∧ takes1' = ts ∧ a5' = some p ∧ keys9' = ksl ∧ r16' = rb ∧ taken17' = tks ∧ (∃ (i nx : Nat) (J : List Nat) (s : Sl) (tk : List Bool), i18' = i ∧ i ≤ takes.length ∧ RM k nx J tk ∧ At W w' [boxA rb (rtC ((2 * nx : Nat) : Int) (nx : Int) s), kyA s (skK J), boolA tks tk, ownA ksl (keysL k), arT p (chT k)])) ∧ takes.length - i18'.toNat < takes.length - (i : Int).toNat) (k : Int) ts (some p) ksl rb tks (i : Int) (t : Int) (newA w') (setCells (newA w') (rtC ((2 * nx' : Nat) : Int) (nx' : Int) s') 0 (w'.alloc (.cells #[.int .i64 0, .int .i64 0, .slice none 0 0] 104)))))) := by
        intro nx' J' s' w' hM' htf h'
        obtain ⟨k1, k2⟩ := h'.tmp 104 (zs := [.int .i64 0, .int .i64 0, .slice none 0 0]) (cs := rtC ((2 * nx' : Nat) : Int) (nx' : Int) s') rfl
        refine ⟨k1, ?_⟩
        generalize setCells (newA w') (rtC ((2 * nx' : Nat) : Int) (nx' : Int) s') 0 _ = w9 at k2 ⊢
        generalize newA w' = nb at k2 ⊢
        have h9 : At W w9 [boxA nb (rtC ((2 * nx' : Nat) : Int) (nx' : Int) s'), kyA s' (skK J'), arT p (chT k), boxA rb (rtC ((2 * nx : Nat) : Int) (nx : Int) s), kyA s (skK J), boolA tks tk, ownA ksl (keysL k)] := k2
        obtain ⟨q1, hq1, hc1⟩ := h9.s.boolAt 5 rfl (j := t) (by omega)
        obtain ⟨q2, hq2, hc2⟩ := h9.num 6 rfl (i := t) (by rw [keysL_len]; exact ht)
        rw [keysL_at ht] at hc2
        rw [htf] at hc1
        refine ⟨by omega, by omega, q1, hq1, false, by rw [Int.toNat_natCast]; exact hc1, cond_f' rfl ⟨by omega, by omega, q2, hq2, _, by rw [Int.toNat_natCast]; exact hc2, cond_n (fun h => absurd rfl h) fun _ => ?_⟩⟩
        unfold trystlaw19_RatchetMeets.c3
        have h11 := h9.drew
        refine ⟨fun y => y.cell? nb = some (.int .i64 ((2 * nx' : Nat) : Int)) ∧ y.cell? (nb.add 1) = some (.int .i64 (nx' : Int)) ∧ y.cell? (nb.add 2) = some (.slice s'.a s'.len s'.cap), ⟨h11.s.cell0 0 rfl rfl, h11.s.cell 0 rfl 1 rfl, h11.s.cell 0 rfl 2 rfl⟩, _, fun y hy => hy.1, _, fun y hy => hy.2.1, _, _, _, fun y hy => hy.2.2, by omega, by omega, q1, hq1, ?_⟩
        obtain ⟨wr5, h6s, hb6⟩ := h11.s.boolSet 5 rfl hq1 (j := t) (by omega) true
        refine ⟨by rw [Int.toNat_natCast]; exact wr5, ?_⟩
        rw [Int.toNat_natCast]
        intro w13
        have h13 : At W w13 [boxA nb (rtC ((2 * nx' : Nat) : Int) (nx' : Int) s'), kyA s' (skK J'), arT p (chT k), boxA rb (rtC ((2 * nx : Nat) : Int) (nx : Int) s), kyA s (skK J), boolA tks (tk.set t true), ownA ksl (keysL k)] := h11.go h6s hb6
        clear_value w13
        refine ⟨⟨h13.s.cell0 0 rfl rfl, h13.s.cell 0 rfl 1 rfl, h13.s.cell 0 rfl 2 rfl⟩, ?_⟩
        obtain ⟨m1, m2⟩ := h13.set3 3 rfl (.int .i64 ((2 * nx' : Nat) : Int)) (.int .i64 (nx' : Int)) (.slice s'.a s'.len s'.cap)
        refine ⟨m1, ?_⟩
        dsimp only
        rw [inc (by omega)]
        refine ⟨⟨rfl, rfl, rfl, rfl, rfl, rfl, i + 1, nx', J', s', tk.set t true, rfl, by omega, hM', ?_⟩, by omega⟩
        have m2 : At W _ [boxA nb (rtC ((2 * nx' : Nat) : Int) (nx' : Int) s'), kyA s' (skK J'), arT p (chT k), boxA rb (rtC ((2 * nx' : Nat) : Int) (nx' : Int) s'), kyA s (skK J), boolA tks (tk.set t true), ownA ksl (keysL k)] := m2
        have m3 : At W _ [kyA s' (skK J'), arT p (chT k), boxA rb (rtC ((2 * nx' : Nat) : Int) (nx' : Int) s'), boolA tks (tk.set t true), ownA ksl (keysL k)] := (m2.less 4 rfl).drop
        have m4 : At W _ [boxA rb (rtC ((2 * nx' : Nat) : Int) (nx' : Int) s'), kyA s' (skK J'), arT p (chT k), boolA tks (tk.set t true), ownA ksl (keysL k)] := m3.front 2 rfl
        exact m4.perm (.cons _ (.cons _ ((List.Perm.swap _ _ _).trans (.cons _ (.swap _ _ _)))))
      have tkAt : ∃ b, tk[t]? = some b := ⟨_, List.getElem?_eq_getElem (by omega)⟩
      by_cases hon : nx ≤ t
      · refine (takeR_on h12' hM.rs hnx (by omega) hK (n := t) hon (by omega)).mono ?_
        rintro _ w7 ⟨s', rfl, h7⟩
        rw [hmax] at h7
        have htf : tk[t]? = some false := by
          obtain ⟨b, hb⟩ := tkAt
          cases b with
          | false => exact hb
          | true => have := hM.t1 t hb; omega
        obtain ⟨g1, g2⟩ := good (hM.on hon ht) htf h7
        exact ⟨_, _, _, _, _, _, _, rfl, g1, cond_t rfl g2⟩
      by_cases hin : t ∈ J
      · refine (takeR_old h12' hM.rs hnx (by omega) hK (n := t) (by omega) hin).mono ?_
        rintro _ w7 ⟨s', ix, hix, rfl, h7⟩
        have htf : tk[t]? = some false := by
          obtain ⟨b, hb⟩ := tkAt
          cases b with
          | false => exact hb
          | true => exact absurd hin (hM.t1 t hb).2
        obtain ⟨g1, g2⟩ := good (hM.old hix) htf h7
        exact ⟨_, _, _, _, _, _, _, rfl, g1, cond_t rfl g2⟩
      · refine (takeR_gone h12' hM.rs hnx (by omega) hK (n := t) (by omega) hin).mono ?_
        rintro _ w7 ⟨rfl, h7⟩
        refine ⟨_, _, _, _, _, _, _, rfl, ?_⟩
        obtain ⟨k1, k2⟩ := h7.tmp 104 (zs := [.int .i64 0, .int .i64 0, .slice none 0 0]) (cs := rtC 0 0 ⟨none, 0, 0⟩) rfl
        refine ⟨k1, ?_⟩
        generalize setCells (newA w7) _ 0 _ = w9 at k2 ⊢
        have h9 : At W w9 [boxA (newA w7) (rtC 0 0 ⟨none, 0, 0⟩), arT p (chT k), boxA rb (rtC ((2 * nx : Nat) : Int) (nx : Int) s), kyA s (skK J), boolA tks tk, ownA ksl (keysL k)] := k2
        clear k2
        generalize newA w7 = nb at h9 ⊢
        obtain ⟨q1, hq1, hc1⟩ := h9.s.boolAt 4 rfl (j := t) (by omega)
        have h10 : At W w9 [boxA rb (rtC ((2 * nx : Nat) : Int) (nx : Int) s), kyA s (skK J), boolA tks tk, ownA ksl (keysL k), arT p (chT k)] := by
          have h10 : At W w9 [arT p (chT k), boxA rb (rtC ((2 * nx : Nat) : Int) (nx : Int) s), kyA s (skK J), boolA tks tk, ownA ksl (keysL k)] := h9.drop
          exact (((h10.front 4 rfl).front 4 rfl).front 4 rfl).front 4 rfl
        refine cond_f' rfl (cond_n (fun h => absurd rfl h) fun _ => cond_n (fun h => absurd rfl h) fun _ => ⟨_, h9.s.cell 2 rfl 1 rfl, cond_d (fun h => absurd h (by omega)) fun _ => ⟨by omega, by omega, q1, hq1, _, by rw [Int.toNat_natCast]; exact hc1, ?_⟩⟩)
        rw [inc (by omega)]
        have nxt := (⟨⟨rfl, rfl, rfl, rfl, rfl, rfl, i + 1, nx, J, s, tk, rfl, by omega, hM, h10⟩, by omega⟩ : ((k : Int) = (k : Int) ∧ ts = ts ∧ some p = some p ∧ ksl = ksl ∧ rb = rb ∧ tks = tks ∧ ∃ (i' nx : Nat) (J : List Nat) (s : Sl) (tk : List Bool), ((i + 1 : Nat) : Int) = i' ∧ i' ≤ takes.length ∧ RM k nx J tk ∧ At W w9 [boxA rb (rtC ((2 * nx : Nat) : Int) (nx : Int) s), kyA s (skK J), boolA tks tk, ownA ksl (keysL k), arT p (chT k)]) ∧ takes.length - ((i + 1 : Nat) : Int).toNat < takes.length - (i : Int).toNat)
        obtain ⟨b, hb⟩ := tkAt
        rw [hb]
        cases b with
        | false =>
          have := hM.t2 t hb (by omega) hin
          refine cond_t rfl ⟨_, h9.s.cell 2 rfl 1 rfl, cond_d (fun h => ?_) fun _ => nxt⟩
          rw [w64 (by omega)] at h
          omega
        | true => exact cond_f' rfl nxt
    · unfold trystlaw19_RatchetMeets.c1
      refine ⟨_, h12.s.cell0 0 rfl rfl, _, h12.s.cell 0 rfl 1 rfl, _, _, _, h12.s.cell 0 rfl 2 rfl, ?_⟩
      refine (check_at h12 _ _ (by rw [skK_len]; omega) (KeptK.here (R := [boolA tks tk, ownA ksl (keysL k), arT p (chT k)])).cons).mono ?_
      rintro _ w10 ⟨rfl, h10⟩
      rw [if_pos (hM.rs.ok (by omega))]
      refine ⟨_, rfl, cond_t rfl ((wakes19 h10).mono ?_)⟩
      rintro _ w11 ⟨rfl, h11⟩
      exact ⟨true, rfl, by rw [← hRR]; exact ⟨rfl, h11.b⟩⟩
end

end Go.Proofs.YtoclhecldmahiaaDoor
