/-
  RatchetBounds.
-/
import Derived.Test.YtoclhecldmahiaaDoorRaA
import Derived.Test.YtoclhecldmahiaaDoorR1Fns
set_option linter.unusedVariables false
set_option linter.unusedVariables false
set_option linter.unusedSimpArgs false
namespace Go.Proofs.YtoclhecldmahiaaDoor
open Go.Lf Go.RowKit

section
variable {W w : World} {L R : List Asn} {p : Addr} {m nx n : Nat} {J : List Nat} {s : Sl}

theorem At.less (k : Nat) {A : Asn} (hk : L[k]? = some A) (h : At W w L) : At W w (L.eraseIdx k) := ⟨h.s.less k hk, h.b, h.t⟩

theorem sendR (h : At W w (arT p (chT m) :: R)) (hj : RS nx J) (hnm : nx ≤ m) (hm : m ≤ 40000) (hK : KeptK W R s (skK J)) :
    CallsV Tryd.prog n_ratchet_Send #[.pointer (some p), rtV ((2 * nx : Nat) : Int) nx s] w fun v w' => ∃ s', v = .tuple #[.int .i64 ((2 * nx + 1 : Nat) : Int), .int .i64 (nx : Int), rtV ((2 * (nx + 1) : Nat) : Int) ((nx + 1 : Nat) : Int) s', .int .i64 0] ∧ At W w' (kyA s' (skK J) :: arT p (chT (if nx = m then m + 1 else m)) :: R) := by
  have hs := send_ch hj hnm hm
  have hl := hj.len
  refine (send_at h _ _ (by rw [skK_len]; omega) (by rw [chT_len]; omega) hK).mono ?_
  rintro v w' ⟨_, g⟩
  obtain ⟨s', rfl, h'⟩ := g hs.1
  rw [hs.2] at h' ⊢
  exact ⟨s', rfl, h'⟩

theorem takeR_on (h : At W w (arT p (chT m) :: R)) (hj : RS nx J) (hnm : nx ≤ m) (hm : m ≤ 40000) (hK : KeptK W R s (skK J)) (hn : nx ≤ n) (hd : n - nx ≤ 200) :
    CallsV Tryd.prog n_ratchet_Take #[.pointer (some p), rtV ((2 * nx : Nat) : Int) nx s, .int .i64 (n : Int)] w fun v w' => ∃ s', v = .tuple #[.int .i64 ((2 * n + 1 : Nat) : Int), rtV ((2 * (n + 1) : Nat) : Int) ((n + 1 : Nat) : Int) s', .int .i64 0] ∧ At W w' (kyA s' (skK (tailJ (J ++ wayJ nx n))) :: arT p (chT (max m (n + 1))) :: R) := by
  have hs := take_ch hj hnm hm hn hd
  have hl := hj.len
  refine (take_at h _ _ _ (by rw [skK_len]; omega) (by rw [chT_len]; omega) (by omega) hK).mono ?_
  rintro v w' ⟨_, g⟩
  obtain ⟨s', rfl, h'⟩ := g hs.1
  rw [hs.2] at h' ⊢
  exact ⟨s', rfl, h'⟩
theorem takeR_far (h : At W w (arT p (chT m) :: R)) (hj : RS nx J) (hnm : nx ≤ m) (hm : m ≤ 40000) (hK : KeptK W R s (skK J)) (hn : nx ≤ n) (hd : n - nx > 200) (hn2 : n < 1073741824) :
    CallsV Tryd.prog n_ratchet_Take #[.pointer (some p), rtV ((2 * nx : Nat) : Int) nx s, .int .i64 (n : Int)] w fun v w' => v = .tuple #[.int .i64 0, rtV 0 0 ⟨none, 0, 0⟩, .int .i64 14] ∧ At W w' (arT p (chT m) :: R) := by
  have hs := take_far hj hnm hm hn hd hn2
  have hl := hj.len
  refine (take_at h _ _ _ (by rw [skK_len]; omega) (by rw [chT_len]; omega) (by omega) hK).mono ?_
  rintro v w' ⟨g, _⟩
  obtain ⟨rfl, h'⟩ := g (by rw [hs]; decide)
  rw [hs]
  exact ⟨rfl, h'⟩
theorem takeR_gone (h : At W w (arT p (chT m) :: R)) (hj : RS nx J) (hnm : nx ≤ m) (hm : m ≤ 40000) (hK : KeptK W R s (skK J)) (hn : n < nx) (hJ : n ∉ J) :
    CallsV Tryd.prog n_ratchet_Take #[.pointer (some p), rtV ((2 * nx : Nat) : Int) nx s, .int .i64 (n : Int)] w fun v w' => v = .tuple #[.int .i64 0, rtV 0 0 ⟨none, 0, 0⟩, .int .i64 13] ∧ At W w' (arT p (chT m) :: R) := by
  have hs := take_gone hj hnm hm hn hJ
  have hl := hj.len
  refine (take_at h _ _ _ (by rw [skK_len]; omega) (by rw [chT_len]; omega) (by omega) hK).mono ?_
  rintro v w' ⟨g, _⟩
  obtain ⟨rfl, h'⟩ := g (by rw [hs]; decide)
  rw [hs]
  exact ⟨rfl, h'⟩
theorem takeR_old (h : At W w (arT p (chT m) :: R)) (hj : RS nx J) (hnm : nx ≤ m) (hm : m ≤ 40000) (hK : KeptK W R s (skK J)) (hn : n < nx) (hJ : n ∈ J) :
    CallsV Tryd.prog n_ratchet_Take #[.pointer (some p), rtV ((2 * nx : Nat) : Int) nx s, .int .i64 (n : Int)] w fun v w' => ∃ s' i, J[i]? = some n ∧ v = .tuple #[.int .i64 ((2 * n + 1 : Nat) : Int), rtV ((2 * nx : Nat) : Int) (nx : Int) s', .int .i64 0] ∧ At W w' (kyA s' (skK (J.eraseIdx i)) :: arT p (chT m) :: R) := by
  obtain ⟨he, i, hi, hs⟩ := take_old hj hnm hm hn hJ
  have hl := hj.len
  refine (take_at h _ _ _ (by rw [skK_len]; omega) (by rw [chT_len]; omega) (by omega) hK).mono ?_
  rintro v w' ⟨_, g⟩
  obtain ⟨s', rfl, h'⟩ := g he
  rw [hs] at h' ⊢
  exact ⟨s', i, hi, rfl, h'⟩

theorem tail_way (f j : Nat) : tailJ ([] ++ wayJ f (f + j)) = List.range' (f + (j - min 16 j)) (min 16 j) := by
  unfold tailJ wayJ
  rw [List.nil_append, List.length_range', List.drop_range', show f + j - f = j by omega]
  rcases Nat.le_total 16 j with h | h
  · rw [Nat.min_eq_left h]
    congr 1 <;> omega
  · rw [Nat.min_eq_right h]
    congr 1 <;> omega

set_option maxRecDepth 100000 in
theorem bounds_spec {W : World} (hT : PT W.heap.size W) (jump first : Int) :
    CallsV Tryd.prog n_trystlaw19_RatchetBounds #[.int .i64 jump, .int .i64 first] W fun v w' => v = .bool true ∧ Below W.heap.size W w' := by
  refine trystlaw19_RatchetBounds.lift ?_
  unfold trystlaw19_RatchetBounds.main
  refine cond_d (fun _ => ⟨rfl, Below.refl _ _⟩) fun hj0 => cond_d (fun _ => ⟨rfl, Below.refl _ _⟩) fun hj1 => cond_d (fun _ => ⟨rfl, Below.refl _ _⟩) fun hf0 => cond_d (fun _ => ⟨rfl, Below.refl _ _⟩) fun hf1 => ?_
  generalize hRR : (fun (v : Value) (w' : World) => v = .bool true ∧ Below W.heap.size W w') = RR
  obtain ⟨j, rfl⟩ := Int.eq_ofNat_of_zero_le (by omega : 0 ≤ jump)
  obtain ⟨f, rfl⟩ := Int.eq_ofNat_of_zero_le (by omega : 0 ≤ first)
  have fin : ∀ {w' : World} {R : List Asn}, At W w' R → CallsV Tryd.prog n_trystlaw19_wakes #[] w' (fun v w2 => ∃ b : Bool, v = .bool b ∧ RR (.bool b) w2) := by
    intro w' R h
    refine (wakes19 h).mono ?_
    rintro _ w2 ⟨rfl, h2⟩
    exact ⟨true, rfl, by rw [← hRR]; exact ⟨rfl, h2.b⟩⟩
  have hsum : IntKind.i64.wrap ((f : Int) + (j : Int)) = ((f + j : Nat) : Int) := by rw [w64 (by omega)]; omega
  unfold trystlaw19_RatchetBounds.c8
  refine (new_at (At.start hT)).mono ?_
  rintro _ w1 ⟨p, rfl, h1⟩
  refine ⟨_, rfl, cond_f' rfl ?_⟩
  refine (mk0 1 1 h1 (by omega)).mono ?_
  rintro _ w2 ⟨rfl, h2⟩
  have p2 : put [] ⟨1, 1, []⟩ = (chT 0, 0, 0) := by decide
  rw [p2] at h2 ⊢
  refine ⟨_, _, rfl, cond_n (fun h => absurd rfl h) fun _ => (rnew_at h2 0).mono ?_⟩
  rintro _ w3 ⟨rfl, h3⟩
  refine ⟨_, _, _, _, _, rfl, ?_⟩
  intro w4
  obtain ⟨k1, k2⟩ := h3.kyNil.tmp 104 (zs := [.int .i64 0, .int .i64 0, .slice none 0 0]) (cs := rtC 0 0 ⟨none, 0, 0⟩) rfl
  refine ⟨k1, ?_⟩
  intro w5
  have h5 : At W w5 [boxA (newA w3) (rtC 0 0 ⟨none, 0, 0⟩), kyA ⟨none, 0, 0⟩ [], arT p (chT 0)] := k2
  clear_value w5
  generalize newA w3 = r at h5 ⊢
  unfold trystlaw19_RatchetBounds.l6
  refine ⟨fun x w' => ∃ (k : Nat) (s : Sl), x = k ∧ k ≤ f ∧ At W w' [boxA r (rtC ((2 * k : Nat) : Int) (k : Int) s), kyA s [], arT p (chT k)], fun x _ => f - x.toNat, ⟨0, _, rfl, Nat.zero_le _, h5⟩, ?_⟩
  clear h5 h3 h2 h1 k1 k2
  rintro _ w6 ⟨k, s, rfl, hk, h6⟩
  unfold trystlaw19_RatchetBounds.b6
  have hK : KeptK W [boxA r (rtC ((2 * k : Nat) : Int) (k : Int) s), kyA s (skK [])] s (skK []) := KeptK.here.cons
  have h6' : At W w6 (arT p (chT k) :: [boxA r (rtC ((2 * k : Nat) : Int) (k : Int) s), kyA s (skK [])]) := h6.front 2 rfl
  refine cond_d (p := (k : Int) < (f : Int)) (fun hlt => ?_) fun hge => ?_
  · refine ⟨_, h6.s.cell0 0 rfl rfl, _, h6.s.cell 0 rfl 1 rfl, _, _, _, h6.s.cell 0 rfl 2 rfl, ?_⟩
    refine (sendR h6' (RS.nil k) (Nat.le_refl _) (by omega) hK).mono ?_
    rintro _ w7 ⟨s', rfl, h7⟩
    refine ⟨_, _, _, _, _, _, _, _, rfl, ?_⟩
    intro w8
    obtain ⟨k1, k2⟩ := h7.tmp 104 (zs := [.int .i64 0, .int .i64 0, .slice none 0 0]) (cs := rtC ((2 * (k + 1) : Nat) : Int) ((k + 1 : Nat) : Int) s') rfl
    refine ⟨k1, ?_⟩
    intro w9
    have h9 : At W w9 [boxA (newA w7) (rtC ((2 * (k + 1) : Nat) : Int) ((k + 1 : Nat) : Int) s'), kyA s' [], arT p (chT (if k = k then k + 1 else k)), boxA r (rtC ((2 * k : Nat) : Int) (k : Int) s), kyA s []] := k2
    rw [if_pos rfl] at h9
    clear_value w9
    generalize newA w7 = nb at h9 ⊢
    refine cond_n (fun h => absurd rfl h) fun _ => cond_n (fun h => absurd rfl h) fun _ => ?_
    unfold trystlaw19_RatchetBounds.c7
    refine ⟨_, h9.s.cell0 0 rfl rfl, _, h9.s.cell 0 rfl 1 rfl, _, _, _, h9.s.cell 0 rfl 2 rfl, ?_⟩
    obtain ⟨m1, m2⟩ := h9.set3 3 rfl (.int .i64 ((2 * (k + 1) : Nat) : Int)) (.int .i64 ((k + 1 : Nat) : Int)) (.slice s'.a s'.len s'.cap)
    refine ⟨m1, ?_⟩
    dsimp only
    rw [inc (by omega)]
    refine ⟨⟨rfl, rfl, rfl, rfl, k + 1, s', rfl, by omega, ?_⟩, by omega⟩
    have m3 := (m2.drop.front 2 rfl).less 3 rfl
    exact m3
  · have hkf : k = f := by omega
    subst hkf
    unfold trystlaw19_RatchetBounds.c5
    rw [hsum]
    refine ⟨_, h6.s.cell0 0 rfl rfl, _, h6.s.cell 0 rfl 1 rfl, _, _, _, h6.s.cell 0 rfl 2 rfl, ?_⟩
    by_cases hj200 : j > 200
    · refine (takeR_far h6' (RS.nil k) (Nat.le_refl _) (by omega) hK (n := k + j) (by omega) (by omega) (by omega)).mono ?_
      rintro _ w7 ⟨rfl, h7⟩
      refine ⟨_, _, _, _, _, _, _, rfl, ?_⟩
      intro w8
      obtain ⟨k1, k2⟩ := h7.tmp 104 (zs := [.int .i64 0, .int .i64 0, .slice none 0 0]) (cs := rtC 0 0 ⟨none, 0, 0⟩) rfl
      refine ⟨k1, ?_⟩
      intro w9
      refine cond_t (by simp; omega) (cond_t rfl (cond_t rfl (fin k2)))
    · refine (takeR_on h6' (RS.nil k) (Nat.le_refl _) (by omega) hK (n := k + j) (by omega) (by omega)).mono ?_
      rintro _ w7 ⟨s', rfl, h7⟩
      rw [tail_way, Nat.max_eq_right (by omega)] at h7
      have hRS : RS (k + j + 1) (List.range' (k + (j - min 16 j)) (min 16 j)) := by
        have := (RS.nil k).further (n := k + j) (by omega)
        rwa [tail_way] at this
      obtain ⟨q, hq⟩ : ∃ q, q = min 16 j := ⟨_, rfl⟩
      rw [← hq] at h7 hRS
      refine ⟨_, _, _, _, _, _, _, rfl, ?_⟩
      intro w8
      obtain ⟨k1, k2⟩ := h7.tmp 104 (zs := [.int .i64 0, .int .i64 0, .slice none 0 0]) (cs := rtC ((2 * (k + j + 1) : Nat) : Int) ((k + j + 1 : Nat) : Int) s') rfl
      refine ⟨k1, ?_⟩
      intro w9
      have h9 : At W w9 [boxA (newA w7) (rtC ((2 * (k + j + 1) : Nat) : Int) ((k + j + 1 : Nat) : Int) s'), kyA s' (skK (List.range' (k + (j - q)) q)), arT p (chT (k + j + 1)), boxA r (rtC ((2 * k : Nat) : Int) (k : Int) s), kyA s []] := k2
      clear_value w9
      generalize newA w7 = nb at h9 ⊢
      have h9 := (h9.less 4 rfl).less 3 rfl
      have h9 : At W w9 [boxA nb (rtC ((2 * (k + j + 1) : Nat) : Int) ((k + j + 1 : Nat) : Int) s'), kyA s' (skK (List.range' (k + (j - q)) q)), arT p (chT (k + j + 1))] := h9
      have hkept : (if (16 : Int) < (j : Int) then (16 : Int) else (j : Int)) = (q : Int) := by
        split <;> omega
      have hslen : s'.len = q := by rw [(h9.kys 1 rfl).len, skK_len, List.length_range']
      refine cond_f' (by simp; omega) ?_
      dsimp only
      rw [hkept]
      refine cond_n (fun h => absurd rfl h) fun _ => ⟨_, h9.s.cell 0 rfl 1 rfl, cond_n (fun h => absurd ?_ h) fun _ => ⟨_, _, _, h9.s.cell 0 rfl 2 rfl, cond_n (fun h => absurd (by rw [hslen]) h) fun _ => ⟨_, h9.s.cell0 0 rfl rfl, _, h9.s.cell 0 rfl 1 rfl, _, _, _, h9.s.cell 0 rfl 2 rfl, ?_⟩⟩⟩
      · rw [inc (by omega)]
      refine (check_at h9 _ _ (by rw [skK_len]; have := hRS.len; omega) (KeptK.here (R := [arT p (chT (k + j + 1))])).cons).mono ?_
      rintro _ w10 ⟨rfl, h10⟩
      rw [if_pos (hRS.ok (by omega))]
      refine ⟨_, rfl, cond_n (fun h => absurd rfl h) fun _ => ?_⟩
      unfold trystlaw19_RatchetBounds.c4 trystlaw19_RatchetBounds.l3
      refine ⟨fun x w' => ∃ i : Nat, x = i ∧ i ≤ q ∧ At W w' [boxA nb (rtC ((2 * (k + j + 1) : Nat) : Int) ((k + j + 1 : Nat) : Int) s'), kyA s' (skK (List.range' (k + (j - q)) q)), arT p (chT (k + j + 1))], fun x _ => q - x.toNat, ⟨0, rfl, Nat.zero_le _, h10⟩, ?_⟩
      clear h10 h9 k1 k2 h7 h6 h6' hK
      rintro _ w11 ⟨i, rfl, hi, h11⟩
      unfold trystlaw19_RatchetBounds.b3
      refine cond_d (p := (i : Int) < (q : Int)) (fun hlt => ?_) fun hge => ?_
      · obtain ⟨a, ha, c1, c2⟩ := (h11.kys 1 rfl).cell i (kyJ (k + (j - q) + i)) (by unfold skK; rw [List.getElem?_map, List.getElem?_range' (by omega)]; simp)
        refine ⟨_, _, _, h11.s.cell 0 rfl 2 rfl, by omega, by omega, a, ha, _, by rw [Int.toNat_natCast]; exact c1, cond_n (fun h => absurd ?_ h) fun _ => ?_⟩
        · have e1 : IntKind.i64.wrap (((k + j : Nat) : Int) - (q : Int)) = ((k + (j - q) : Nat) : Int) := by rw [w64 (by omega)]; omega
          have e2 : IntKind.i64.wrap (((k + (j - q) : Nat) : Int) + (i : Int)) = ((k + (j - q) + i : Nat) : Int) := by rw [w64 (by omega)]; omega
          rw [hsum, e1, e2]
          rfl
        · dsimp only
          rw [inc (by omega)]
          exact ⟨⟨rfl, rfl, rfl, rfl, rfl, i + 1, rfl, by omega, h11⟩, by omega⟩
      · unfold trystlaw19_RatchetBounds.c2
        refine ⟨_, h11.s.cell0 0 rfl rfl, _, h11.s.cell 0 rfl 1 rfl, _, _, _, h11.s.cell 0 rfl 2 rfl, ?_⟩
        have h11' : At W w11 (arT p (chT (k + j + 1)) :: [boxA nb (rtC ((2 * (k + j + 1) : Nat) : Int) ((k + j + 1 : Nat) : Int) s'), kyA s' (skK (List.range' (k + (j - q)) q))]) := h11.front 2 rfl
        refine (sendR h11' hRS (Nat.le_refl _) (by omega) KeptK.here.cons).mono ?_
        rintro _ w12 ⟨s3, rfl, h12⟩
        refine ⟨_, _, _, _, _, _, _, _, rfl, ?_⟩
        intro w13
        obtain ⟨k1, k2⟩ := h12.tmp 104 (zs := [.int .i64 0, .int .i64 0, .slice none 0 0]) (cs := rtC ((2 * (k + j + 1 + 1) : Nat) : Int) ((k + j + 1 + 1 : Nat) : Int) s3) rfl
        refine ⟨k1, ?_⟩
        intro w14
        have h14 : At W w14 [boxA (newA w12) (rtC ((2 * (k + j + 1 + 1) : Nat) : Int) ((k + j + 1 + 1 : Nat) : Int) s3), kyA s3 (skK (List.range' (k + (j - q)) q)), arT p (chT (if k + j + 1 = k + j + 1 then k + j + 1 + 1 else k + j + 1)), boxA nb (rtC ((2 * (k + j + 1) : Nat) : Int) ((k + j + 1 : Nat) : Int) s'), kyA s' (skK (List.range' (k + (j - q)) q))] := k2
        rw [if_pos rfl] at h14
        clear_value w14
        generalize newA w12 = tb at h14 ⊢
        have hs3len : s3.len = q := by rw [(h14.kys 1 rfl).len, skK_len, List.length_range']
        refine cond_n (fun h => absurd rfl h) fun _ => ⟨_, h14.s.cell 3 rfl 1 rfl, cond_n (fun h => absurd rfl h) fun _ => ⟨_, _, _, h14.s.cell 0 rfl 2 rfl, cond_n (fun h => absurd (by rw [hs3len]) h) fun _ => ?_⟩⟩
        unfold trystlaw19_RatchetBounds.c1
        rw [hsum]
        refine ⟨_, h14.s.cell0 0 rfl rfl, _, h14.s.cell 0 rfl 1 rfl, _, _, _, h14.s.cell 0 rfl 2 rfl, ?_⟩
        have h14' : At W w14 (arT p (chT (k + j + 1 + 1)) :: boxA tb (rtC ((2 * (k + j + 1 + 1) : Nat) : Int) ((k + j + 1 + 1 : Nat) : Int) s3) :: kyA s3 (skK (List.range' (k + (j - q)) q)) :: _) := h14.front 2 rfl
        refine (takeR_gone h14' (hRS.up (by omega)) (Nat.le_refl _) (by omega) KeptK.here.cons (n := k + j) (by omega) (by rw [List.mem_range'_1]; omega)).mono ?_
        rintro _ w15 ⟨rfl, h15⟩
        exact ⟨_, _, _, _, _, _, _, rfl, cond_t rfl (fin h15)⟩
end

end Go.Proofs.YtoclhecldmahiaaDoor
