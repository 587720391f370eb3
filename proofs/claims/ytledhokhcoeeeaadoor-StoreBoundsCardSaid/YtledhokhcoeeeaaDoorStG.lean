/-
  StoreBounds: the law.
-/
import Derived.Test.YtledhokhcoeeeaaDoorStE
import Derived.Test.YtledhokhcoeeeaaDoorStBF
set_option linter.unusedVariables false
set_option linter.unusedVariables false
set_option linter.unusedSimpArgs false
namespace Go.Proofs.YtledhokhcoeeeaaDoor
open Go.Lf Go.RowKit

def onD (safe : List (Option (List Int))) : DS := ⟨safe, [], false, none⟩
def offD (safe : List (Option (List Int))) : DS := ⟨safe, [], true, none⟩
theorem Gone.eq {safe : List (Option (List Int))} {st : DS} (h : Gone safe st) : st = offD safe := by
  obtain ⟨a, b, c, d⟩ := st
  obtain ⟨h1, h2, h3, h4⟩ := h
  dsimp only at h1 h2 h3 h4
  subst h1 h2 h3 h4
  rfl
theorem Mid.on_ (safe : List (Option (List Int))) (q : Bool) : Mid safe [] q (onD safe) := ⟨rfl, rfl, rfl, (fun t h => by cases h), fun _ => rfl⟩
theorem crash_eq {safe : List (Option (List Int))} {q : Bool} {st : DS} (h : Mid safe [] q st) (kl : List Bool) (t : Int) : crashD st kl t = offD safe := by
  obtain ⟨a, b, c, d⟩ := st
  obtain ⟨h1, h2, h3, _, _⟩ := h
  dsimp only at h1 h2 h3
  subst h1 h2 h3
  rfl

section
variable {W w w' : World} {L L' R X : List Asn} {d p a m : Addr} {st st1 : DS} {V : Value} {c : Nat} {S b : List Int} {q : Bool} {sb : Sl} {RR : Value → World → Prop}

/-- the power goes and comes: the state is there -/
theorem sb_c1 (hRR : ∀ w, Below W.heap.size W w → RR (.bool true) w) {safe : List (Option (List Int))} (hH : Holds safe c S) (hc : c < 2 ^ 40) {t : Sl} (h : At W w (diskA d (offD safe) :: byA t S :: R)) : trystlaw14_StoreBounds.c1 RR (some d) t w := by
  have few := hH.few
  unfold trystlaw14_StoreBounds.c1
  refine (start_at h).mono ?_
  rintro _ w1 ⟨rfl, h1⟩
  have h1 : At W w1 (diskA d (onD safe) :: byA t S :: R) := h1
  refine ⟨rfl, (open_at (st := onD safe) hH rfl rfl hc h1).mono ?_⟩
  rintro _ w2 ⟨p, rfl, h2⟩
  refine ⟨_, _, rfl, cond_t rfl (cond_t rfl ((state_at h2 (by omega)).mono ?_))⟩
  rintro _ w3 ⟨s, rfl, h3⟩
  refine ⟨_, _, _, rfl, (bytes_at h3 (h3.bytes 0 rfl (by omega)) (h3.bytes 3 rfl (by omega))).mono ?_⟩
  rintro _ w4 ⟨rfl, h4⟩
  refine ⟨_, rfl, cond_t (by simp) ((wakes14_at h4).mono ?_)⟩
  rintro _ w5 ⟨rfl, h5⟩
  exact ⟨_, rfl, hRR _ h5.b⟩

theorem sb_c2 (hRR : ∀ w, Below W.heap.size W w → RR (.bool true) w) (hH : Holds st.safe c S) (hM : Mid st.safe [] true st) (hc : c < 2 ^ 40) {t : Sl} (h : At W w (diskA d st :: storeA d p S :: byA t S :: R)) : trystlaw14_StoreBounds.c2 RR (some d) (some p) t w := by
  have few := hH.few
  unfold trystlaw14_StoreBounds.c2
  refine (state_at h (by omega)).mono ?_
  rintro _ w3 ⟨s, rfl, h3⟩
  refine ⟨_, _, _, rfl, (bytes_at h3 (h3.bytes 0 rfl (by omega)) (h3.bytes 3 rfl (by omega))).mono ?_⟩
  rintro _ w4 ⟨rfl, h4⟩
  refine ⟨_, rfl, cond_f' (by simp) ((crash_at h4.drop hM.pend (-1)).mono ?_)⟩
  rintro _ w5 ⟨rfl, h5⟩
  rw [crash_eq hM] at h5
  refine ⟨rfl, (open_off (st := offD st.safe) rfl h5).mono ?_⟩
  rintro _ w6 ⟨rfl, hw⟩
  subst hw
  refine ⟨_, _, rfl, cond_n (fun hne => absurd rfl hne) fun _ => cond_f' rfl ((Save_off (sb := ⟨none, 0, 0⟩) (st := offD st.safe) rfl h5).mono ?_)⟩
  rintro _ w7 ⟨rfl, hw⟩
  subst hw
  exact ⟨_, rfl, cond_n (fun hne => absurd rfl hne) fun _ => sb_c1 hRR hH hc (h5.less 1 rfl)⟩

set_option maxRecDepth 100000 in
theorem sb_c5 (hRR : ∀ w, Below W.heap.size W w → RR (.bool true) w) (hH : Holds st.safe 1 [1, 2, 3]) (hM : Mid st.safe [] true st) {over cc : Int} (h0 : ¬ over < -3) (h2 : ¬ over > 2) (h : At W w (diskA d st :: storeA d p [1, 2, 3] :: R)) : trystlaw14_StoreBounds.c5 RR over cc (some d) (some p) w := by
  unfold trystlaw14_StoreBounds.c5
  obtain ⟨n, hn⟩ : ∃ n : Nat, 8000 + over = n := ⟨(8000 + over).toNat, by omega⟩
  have e : IntKind.i64.wrap (8000 + over) = (n : Int) := by rw [w64 (by omega), hn]
  rw [e]
  refine ⟨by omega, by omega, by omega, by omega, ?_⟩
  intro w14
  have ho : OwnI w.heap.size 5 .u8 w14 ⟨some (newA w), n, n⟩ (List.replicate n 0) := make_ints (n := n) (by unfold maxLen; omega)
  have h14 := (h.own ho (below_alloc _ _)).perm (.trans (.swap _ _ _) (.cons _ (.swap _ _ _)))
  clear_value w14
  generalize newA w = qa at h14 ⊢
  rw [Int.toNat_natCast]
  unfold trystlaw14_StoreBounds.l4
  refine ⟨fun t w' => ∃ i : Nat, t = i ∧ i ≤ n ∧ At W w' (diskA d st :: storeA d p [1, 2, 3] :: byA ⟨some qa, n, n⟩ (List.replicate i cc ++ List.replicate (n - i) 0) :: R), fun t _ => n - t.toNat, ⟨0, rfl, by omega, h14⟩, ?_⟩
  clear h14 ho h
  rintro _ w1 ⟨i, rfl, hi, h1⟩
  unfold trystlaw14_StoreBounds.b4
  refine cond_d (fun hlt => ?_) fun hge => ?_
  · have hlt : (i : Int) < ((n : Nat) : Int) := hlt
    obtain ⟨wr, h3⟩ := h1.bset 2 rfl (q := qa) rfl (j := i) (by simp; omega) cc
    refine ⟨by omega, hlt, qa, rfl, by rw [Int.toNat_natCast]; exact wr, ?_⟩
    rw [Int.toNat_natCast]
    dsimp only
    rw [inc (by omega)]
    refine ⟨⟨rfl, rfl, rfl, rfl, rfl, i + 1, rfl, by omega, ?_⟩, by (try dsimp only); omega⟩
    have e : (List.replicate i cc ++ List.replicate (n - i) 0).set i cc = List.replicate (i + 1) cc ++ List.replicate (n - (i + 1)) 0 := by
      rw [List.set_append_right _ _ (by simp), List.length_replicate, Nat.sub_self, show n - i = (n - (i + 1)) + 1 by omega, List.replicate_succ, List.set_cons_zero, List.replicate_succ', List.append_assoc]
      rfl
    rw [← e]
    exact h3
  · have hge : ¬ (i : Int) < ((n : Nat) : Int) := hge
    obtain rfl : i = n := by omega
    rw [Nat.sub_self, List.replicate_zero, List.append_nil] at h1
    unfold trystlaw14_StoreBounds.c3
    by_cases ho : over > 0
    · refine (Save_long (sb := ⟨some qa, i, i⟩) hM.on (by show 8000 < i; omega) h1).mono ?_
      rintro _ w2 ⟨rfl, hw⟩
      subst hw
      refine ⟨_, rfl, cond_t (by simpa using ho) ?_⟩
      intro w12
      have h12 : At W w12 (byA ⟨some (newA w2), 3, 3⟩ [1, 2, 3] :: diskA d st :: storeA d p [1, 2, 3] :: byA ⟨some qa, i, i⟩ (List.replicate i cc) :: R) := h1.own (made_ints (xs := [1, 2, 3]) (by decide)) (below_alloc _ _)
      exact cond_n (fun hne => absurd rfl hne) fun _ => sb_c2 hRR hH hM (by omega) (h12.perm (.trans (.swap _ _ _) (.cons _ (.swap _ _ _))))
    · refine (Save_quiet hH hM (by omega) (sb := ⟨some qa, i, i⟩) (b := List.replicate i cc) (by simp; omega) (Nat.le_refl _) (fun L w' hw => hw.dropL.bytes 0 rfl (by simp; omega)) h1).mono ?_
      rintro _ w2 ⟨st', rfl, hM', hH', h2⟩
      exact ⟨_, rfl, cond_f' (by simpa using ho) (cond_n (fun hne => absurd rfl hne) fun _ => sb_c2 hRR hH' hM' (by omega) h2)⟩
end

set_option maxRecDepth 100000 in
theorem sbounds_spec {W : World} (hg : W.cell? ⟨0, 0, none⟩ = some errT) (sectors over cc : Int) :
    CallsV Tryd.prog n_trystlaw14_StoreBounds #[.int .i64 sectors, .int .i64 over, .int .u8 cc] W fun v w' => v = .bool true ∧ Below W.heap.size W w' := by
  refine trystlaw14_StoreBounds.lift ?_
  unfold trystlaw14_StoreBounds.main
  generalize hRR : (fun (v : Value) (w' : World) => v = .bool true ∧ Below W.heap.size W w') = RR
  have hRR' : ∀ w, Below W.heap.size W w → RR (.bool true) w := fun w hb => by rw [← hRR]; exact ⟨rfl, hb⟩
  refine cond_d (fun _ => hRR' _ (Below.refl _ _)) fun h0 => cond_d (fun _ => hRR' _ (Below.refl _ _)) fun h02 => ?_
  have hS := At.start hg
  unfold trystlaw14_StoreBounds.c7
  by_cases hn : sectors < 1 ∨ 512 < sectors
  · refine (new_bad sectors W hn).mono ?_
    rintro _ _ ⟨rfl, rfl⟩
    refine ⟨_, _, rfl, cond_n (fun _ => (wakes14_at hS).mono ?_) fun he => by cases he⟩
    rintro _ w2 ⟨rfl, h3⟩
    exact ⟨_, rfl, hRR' _ h3.b⟩
  · obtain ⟨n, rfl⟩ : ∃ n : Nat, sectors = n := ⟨sectors.toNat, by omega⟩
    refine (new_at hS n (by omega) (by omega)).mono ?_
    rintro _ w1 ⟨d, rfl, h1⟩
    refine ⟨_, _, rfl, cond_n (fun hne => absurd rfl hne) fun _ => cond_f' rfl ?_⟩
    unfold trystlaw14_StoreBounds.c6
    by_cases hs : n < 300
    · refine (open_small (st := newD n) rfl (by simpa [newD] using hs) h1).mono ?_
      rintro _ w2 ⟨rfl, hw⟩
      subst hw
      refine ⟨_, _, rfl, cond_t (by simp; omega) (cond_t rfl (cond_t rfl ((wakes14_at h1).mono ?_)))⟩
      rintro _ w3 ⟨rfl, h3⟩
      exact ⟨_, rfl, hRR' _ h3.b⟩
    · have hH : Holds (newD n).safe 0 [] := Holds.new (by omega)
      have hM := Mid.new n
      generalize newD n = st at h1 hH hM
      refine (open_at hH hM.pend hM.on (by omega) h1).mono ?_
      rintro _ w2 ⟨p, rfl, h2⟩
      refine ⟨_, _, rfl, cond_f' (by simp; omega) (cond_n (fun hne => absurd rfl hne) fun _ => cond_f' rfl ?_)⟩
      intro w17
      have h17 : At W w17 (byA ⟨some (newA w2), 3, 3⟩ [1, 2, 3] :: diskA d st :: storeA d p [] :: []) := h2.own (made_ints (xs := [1, 2, 3]) (by decide)) (below_alloc _ _)
      refine (Save_quiet hH hM (by omega) (sb := ⟨some (newA w2), 3, 3⟩) (b := [1, 2, 3]) (by simp) (Nat.le_refl _) (R := [byA ⟨some (newA w2), 3, 3⟩ [1, 2, 3]]) (fun L w' hw => hw.dropL.bytes 0 rfl (by simp)) (h17.perm (.trans (.swap _ _ _) (.cons _ (.swap _ _ _))))).mono ?_
      rintro _ w3 ⟨st', rfl, hM', hH', h3⟩
      exact ⟨_, rfl, cond_n (fun hne => absurd rfl hne) fun _ => sb_c5 hRR' hH' hM' h0 h02 h3⟩

end Go.Proofs.YtledhokhcoeeeaaDoor
