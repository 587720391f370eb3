/-
  A pair of arenas: where the page's terms are; contracts. The page's makes.
-/
import Derived.Test.YtoclhecldmahiaaDoorAtA
import Derived.Test.YtoclhecldmahiaaDoorLiftB
set_option linter.unusedVariables false
set_option linter.unusedVariables false
set_option linter.unusedSimpArgs false
namespace Go.Proofs.YtoclhecldmahiaaDoor
open Go.Lf Go.RowKit

section
variable {W w : World} {L R : List Asn} {p : Addr} {T : List Tm}

/-! the page's -/

theorem rmake_at (h : At W w (pgT p T :: R)) {t : Tm} {s : Sl} (hI : ∀ X w', Sep W.heap.size w' (X :: R) → Below W.heap.size w w' → Ints .i64 w' s t.args) :
    CallsV Tryd.prog n_trystref10_Arena_Make #[.pointer (some p), .int .i64 t.kind, .int .i64 t.n, .slice s.a s.len s.cap] w fun v w' => v = .int .i64 (put T t).2.1 ∧ At W w' (pgT p (put T t).1 :: R) := by
  refine trystref10_Arena_Make.lift ?_
  unfold trystref10_Arena_Make.main
  obtain ⟨N, rfl, hs⟩ := Sep.pgOut h.s
  refine (rput_spec hs hI).mono ?_
  rintro _ w' ⟨more, rfl, e, hs', hb⟩
  exact ⟨_, _, rfl, rfl, h.go (Sep.pgIn hs' e) hb⟩

theorem rmk (k n : Int) (args : List Int) (h : At W w (pgT p T :: R)) (hl : args.length ≤ 1000000000) :
    CallsV Tryd.prog n_trystref10_Arena_Make #[.pointer (some p), .int .i64 k, .int .i64 n, .slice (some (newA w)) args.length args.length] (w.alloc (.cells (args.map (Value.int .i64)).toArray 3)) fun v w' =>
      v = .int .i64 (put T ⟨k, n, args⟩).2.1 ∧ At W w' (pgT p (put T ⟨k, n, args⟩).1 :: R) := by
  have h1 := (h.row args hl).swap
  refine (rmake_at (t := ⟨k, n, args⟩) (s := ⟨some (newA w), args.length, args.length⟩) h1 fun X w' hs _ => rowNow 1 rfl hs (by show args.length ≤ _; omega)).mono ?_
  rintro _ w' ⟨rfl, h2⟩
  exact ⟨rfl, h2.swap.drop⟩

theorem rmk0 (k n : Int) (h : At W w (pgT p T :: R)) :
    CallsV Tryd.prog n_trystref10_Arena_Make #[.pointer (some p), .int .i64 k, .int .i64 n, .slice none 0 0] w fun v w' => v = .int .i64 (put T ⟨k, n, []⟩).2.1 ∧ At W w' (pgT p (put T ⟨k, n, []⟩).1 :: R) :=
  rmake_at (t := ⟨k, n, []⟩) (s := ⟨none, 0, 0⟩) h fun _ _ _ _ => Ints.nil

theorem rkdf (x n : Int) (h : At W w (pgT p T :: R)) :
    CallsV Tryd.prog n_trystref10_Arena_Kdf #[.pointer (some p), .int .i64 x, .int .i64 n] w fun v w' => v = .int .i64 (put T ⟨4, n, [x]⟩).2.1 ∧ At W w' (pgT p (put T ⟨4, n, [x]⟩).1 :: R) := by
  refine trystref10_Arena_Kdf.lift ?_
  unfold trystref10_Arena_Kdf.main
  intro w1
  refine (rmk 4 n [x] h (by simp)).mono ?_
  rintro _ w' ⟨rfl, h2⟩
  exact ⟨_, rfl, rfl, h2⟩
theorem rword (n : Int) (h : At W w (pgT p T :: R)) :
    CallsV Tryd.prog n_trystref10_Arena_Word #[.pointer (some p), .int .i64 n] w fun v w' => v = .int .i64 (put T ⟨2, n, []⟩).2.1 ∧ At W w' (pgT p (put T ⟨2, n, []⟩).1 :: R) := by
  refine trystref10_Arena_Word.lift ?_
  unfold trystref10_Arena_Word.main
  refine (rmk0 2 n h).mono ?_
  rintro _ w' ⟨rfl, h2⟩
  exact ⟨_, rfl, rfl, h2⟩
theorem rpub (x : Int) (h : At W w (pgT p T :: R)) :
    CallsV Tryd.prog n_trystref10_Arena_Pub #[.pointer (some p), .int .i64 x] w fun v w' => v = .int .i64 (put T ⟨5, 0, [x]⟩).2.1 ∧ At W w' (pgT p (put T ⟨5, 0, [x]⟩).1 :: R) := by
  refine trystref10_Arena_Pub.lift ?_
  unfold trystref10_Arena_Pub.main
  intro w1
  refine (rmk 5 0 [x] h (by simp)).mono ?_
  rintro _ w' ⟨rfl, h2⟩
  exact ⟨_, rfl, rfl, h2⟩

/-! a pair -/

def prL (pp a b : Addr) (m : Sl) (M : List Nat) : List Asn := [boxA pp [.pointer (some a), .pointer (some b), .slice m.a m.len m.cap], ownA m (toI M)]
def prA (pp a b : Addr) (M : List Nat) : Asn := exA (fun _ : Sl => True) fun m => prL pp a b m M
theorem Sep.prOut {B : Nat} {pp a b : Addr} {M : List Nat} (h : Sep B w (prA pp a b M :: R)) : ∃ m : Sl, Sep B w (prL pp a b m M ++ R) := by
  obtain ⟨m, _, hs⟩ := h.unfold
  exact ⟨m, hs⟩
theorem Sep.prIn {B : Nat} {pp a b : Addr} {M : List Nat} {m : Sl} (h : Sep B w (prL pp a b m M ++ R)) : Sep B w (prA pp a b M :: R) := h.fold (Φ := fun m => prL pp a b m M) m trivial

def pairL (pp a b : Addr) (M : List Nat) (A B : List Tm) : List Asn := [prA pp a b M, arT a A, pgT b B]

theorem At.okB {pp a b : Addr} {M : List Nat} {A B : List Tm} (h : At W w (pairL pp a b M A B ++ R)) : TOk A ∧ TOk B := ⟨(h.front 1 rfl).ok, (h.front 2 rfl).pok⟩

theorem pairs_at (hT : PT W.heap.size W) {s : Sl} {l : List Stp} (h : Stps W s l) (hh : heavyL l = false) : CallsV Tryd.prog n_trystlaw10_Pairs #[.slice s.a s.len s.cap] W fun v w' => ∃ pp a b, v = .tuple #[.pointer (some pp), .bool true] ∧
      At W w' (pairL pp a b [] (buildT l) (buildT l)) ∧ w'.cell? pp = some (.pointer (some a)) ∧ w'.cell? (pp.add 1) = some (.pointer (some b)) := by
  refine trystlaw10_Pairs.lift ?_
  unfold trystlaw10_Pairs.main
  refine (buildAt hT h hh).mono ?_
  rintro _ w1 ⟨a, b, N, rfl, hN, h1⟩
  refine ⟨_, _, _, rfl, cond_f' rfl ?_⟩
  intro w2
  have h1' : At W w1 [pgT b (buildT l), arT a (buildT l)] := h1.go (Sep.pgIn (h1.s.front 1 rfl) hN) (Below.refl _ _)
  have h2 := h1'.swap.nil
  obtain ⟨hs, hb⟩ := h2.s.box [.pointer (some a), .pointer (some b), .slice none 0 0] 31
  exact ⟨newA w1, a, b, rfl, h2.go (Sep.prIn (m := ⟨none, 0, 0⟩) hs) hb, hs.cell0 0 rfl rfl, hs.cell 0 rfl 1 rfl⟩

/-- the pair's own cells -/
theorem prCells {B : Nat} {pp a b : Addr} {M : List Nat} (h : Sep B w (prA pp a b M :: R)) : w.cell? pp = some (.pointer (some a)) ∧ w.cell? (pp.add 1) = some (.pointer (some b)) := by
  obtain ⟨m, hs⟩ := Sep.prOut h
  exact ⟨Sep.cell0 (l := prL pp a b m M ++ R) 0 rfl hs rfl, Sep.cell (l := prL pp a b m M ++ R) 0 rfl hs 1 rfl⟩

theorem t_small {pp a b : Addr} {M : List Nat} (h : At W w (prA pp a b M :: R)) {i : Nat} (hi : i < M.length) (hM : M.length ≤ 1000000000) :
    CallsV Tryd.prog n_trystlaw10_Pair_T #[.pointer (some pp), .int .i64 (i : Int)] w fun v w' => v = .int .i64 ((M[i] : Nat) : Int) ∧ w = w' := by
  refine trystlaw10_Pair_T.lift ?_
  unfold trystlaw10_Pair_T.main
  obtain ⟨m, hs⟩ := Sep.prOut h.s
  have hm : m.len = M.length := by have := (hs.rowLen 1 rfl).1; rwa [toI_len] at this
  have c2 : ∀ {R : Value → World → Prop}, R (.int .i64 ((M[i] : Nat) : Int)) w → trystlaw10_Pair_T.c2 R (some pp) (i : Int) w := by
    intro R hR
    unfold trystlaw10_Pair_T.c2 trystlaw10_Pair_T.c1
    refine cond_d (fun h => by omega) fun _ => ⟨pp, rfl, _, _, _, hs.cell 0 rfl 2 rfl, cond_d (p := ((i : Nat) : Int) ≥ ((m.len : Nat) : Int)) (fun h => by omega) fun _ => ?_⟩
    obtain ⟨q, hq, hc⟩ := hs.rowCell 1 rfl (j := i) (by rw [List.length_map, toI_len]; exact hi)
    exact ⟨pp, rfl, _, _, _, hs.cell 0 rfl 2 rfl, by omega, by omega, q, hq, _, by rw [Int.toNat_natCast]; exact hc i _ (by rw [List.getElem?_map, toI_at hi]; rfl), hR⟩
  refine ⟨pp, rfl, _, _, _, hs.cell 0 rfl 2 rfl, ?_⟩
  unfold trystlaw10_Pair_T.l3
  refine ⟨fun t w' => t = ((m.len : Nat) : Int) ∧ w' = w, fun _ _ => 0, ⟨rfl, rfl⟩, ?_⟩
  rintro _ _ ⟨rfl, rfl⟩
  unfold trystlaw10_Pair_T.b3
  exact cond_d (p := ((m.len : Nat) : Int) ≤ (i : Int)) (fun h => by omega) fun _ => c2 ⟨rfl, rfl⟩

theorem ts_small {pp a b : Addr} {M : List Nat} (h : At W w (prA pp a b M :: R)) {s : Sl} {xs : List Int} (hx : ∀ x ∈ xs, 0 ≤ x ∧ x < M.length) (hM : M.length ≤ 1000000000) (hl : xs.length ≤ 1000000) (hI : ∀ L w', At W w' (L ++ R) → Ints .i64 w' s xs) :
    CallsV Tryd.prog n_trystlaw10_Pair_Ts #[.pointer (some pp), .slice s.a s.len s.cap] w fun v w' => ∃ s' : Sl, v = .slice s'.a s'.len s'.cap ∧ At W w' (ownA s' (xs.map fun y => (((M[y.toNat]?).getD 0 : Nat) : Int)) :: prA pp a b M :: R) := by
  refine trystlaw10_Pair_Ts.lift ?_
  unfold trystlaw10_Pair_Ts.main trystlaw10_Pair_Ts.l1
  have hlen := (hI [] w h.drop).len
  refine ⟨fun x w' => ∃ k : Nat, x.2 = k ∧ k ≤ xs.length ∧ At W w' (ownA x.1 ((xs.take k).map fun y => (((M[y.toNat]?).getD 0 : Nat) : Int)) :: prA pp a b M :: R), fun x _ => xs.length - x.2.toNat, ⟨0, rfl, Nat.zero_le _, h.nil⟩, ?_⟩
  rintro ⟨s1, _⟩ w1 ⟨k, rfl, hk, h1⟩
  show trystlaw10_Pair_Ts.b1 _ _ (some pp) s s1 (k : Int) w1
  unfold trystlaw10_Pair_Ts.b1
  refine cond_d (p := ((k : Nat) : Int) < ((s.len : Nat) : Int)) (fun hlt => ?_) fun hge => ?_
  · have hk' : k < xs.length := by omega
    obtain ⟨q, hq, hc⟩ := (hI [_, _] w1 h1).get (i := (k : Int)) (by omega) hlt
    rw [Int.toNat_natCast, List.getElem?_eq_getElem hk', Option.getD_some] at hc
    have hx1 := hx _ (List.getElem_mem hk')
    have e1 : xs[k] = ((xs[k].toNat : Nat) : Int) := by omega
    have hlt2 : xs[k].toNat < M.length := by omega
    refine ⟨by omega, hlt, q, hq, _, by rw [Int.toNat_natCast]; exact hc, ?_⟩
    rw [e1]
    refine (t_small h1.swap hlt2 hM).mono ?_
    rintro _ _ ⟨rfl, rfl⟩
    refine ⟨_, rfl, ?_⟩
    intro w2
    obtain ⟨s3, w3, hr3, h3⟩ := more_at 0 rfl h1 ((M[xs[k].toNat] : Nat) : Int) (by rw [List.length_map, List.length_take]; omega)
    refine ⟨_, _, _, _, hr3, ?_⟩
    dsimp only
    rw [inc (by omega)]
    refine ⟨⟨rfl, rfl, k + 1, rfl, by omega, ?_⟩, by (try dsimp only); omega⟩
    have e : (xs.take (k + 1)).map (fun y => (((M[y.toNat]?).getD 0 : Nat) : Int)) = (xs.take k).map (fun y => (((M[y.toNat]?).getD 0 : Nat) : Int)) ++ [((M[xs[k].toNat] : Nat) : Int)] := by
      rw [List.take_succ_eq_append_getElem hk', List.map_append]
      simp [hlt2]
    rw [e]; exact h3
  · rw [List.take_of_length_le (by omega)] at h1
    exact ⟨s1, rfl, h1⟩
end

end Go.Proofs.YtoclhecldmahiaaDoor

/-
  A pair of arenas: where any of the page's terms is: contract.
-/
set_option linter.unusedVariables false
set_option linter.unusedSimpArgs false
namespace Go.Proofs.YtoclhecldmahiaaDoor
open Go.Lf Go.RowKit

/-- what asking a pair may change -/
structure PairTo (A B : List Tm) (M : List Nat) (A' : List Tm) (M' : List Nat) : Prop where
  ok : PairOk A' B M'
  ext : Ext A A'
  few : A'.length + (B.length - M'.length) ≤ A.length + (B.length - M.length)
  same : Ext B A → A' = A
  more : M.length ≤ M'.length

theorem PairTo.refl {A B : List Tm} {M : List Nat} (h : PairOk A B M) : PairTo A B M A M := ⟨h, Ext.refl _, Nat.le_refl _, fun _ => rfl, Nat.le_refl _⟩
theorem PairTo.trans {A B A' A'' : List Tm} {M M' M'' : List Nat} (h : PairTo A B M A' M') (k : PairTo A' B M' A'' M'') : PairTo A B M A'' M'' :=
  ⟨k.ok, h.ext.trans k.ext, Nat.le_trans k.few h.few, fun hs => by rw [k.same (by rw [h.same hs]; exact hs), h.same hs], Nat.le_trans h.more k.more⟩

section
variable {W w : World} {R : List Asn} {pp a b : Addr} {A B : List Tm} {M : List Nat}

theorem t_out {N : Nds} (hN : terms N = B) (h : At W w (prA pp a b M :: arT a A :: pgA b N :: R)) : At W w (pairL pp a b M A B ++ R) := by
  have h1 := h.front 2 rfl
  have h2 : At W w (pgT b B :: prA pp a b M :: arT a A :: R) := h1.go (Sep.pgIn h1.s hN) (Below.refl _ _)
  exact (h2.front 2 rfl).front 2 rfl |>.perm (by
    show [prA pp a b M, arT a A, pgT b B].append R |>.Perm _
    exact List.Perm.refl _)

/-- numbers that a machine's word holds -/
def Nb (T : List Tm) : Prop := ∀ t ∈ T, t.n ≤ 9223372036854775807
theorem Nb.put {T : List Tm} (h : Nb T) {t : Tm} (ht : t.n ≤ 9223372036854775807) : Nb (put T t).1 := fun u hu => by
  rcases put_mem hu with hu | rfl
  · exact h u hu
  · exact ht

set_option maxRecDepth 100000 in
theorem pairT (h : At W w (pairL pp a b M A B ++ R)) (hp : PairOk A B M) (hnb : Nb B) (hs : A.length + (B.length - M.length) ≤ 1000000) (i : Int) :
    CallsV Tryd.prog n_trystlaw10_Pair_T #[.pointer (some pp), .int .i64 i] w fun v w' => ∃ k A' M', v = .int .i64 k ∧ At W w' (pairL pp a b M' A' B ++ R) ∧ PairTo A B M A' M' ∧ Rel A' B k i := by
  refine trystlaw10_Pair_T.lift ?_
  unfold trystlaw10_Pair_T.main
  obtain ⟨hA, hB⟩ := h.okB
  have h1 : At W w (pgT b B :: prA pp a b M :: arT a A :: R) := h.front 2 rfl
  obtain ⟨N, hN, h1s⟩ := Sep.pgOut h1.s
  have h2 : At W w (prA pp a b M :: arT a A :: pgA b N :: R) := (((h1.go h1s (Below.refl _ _)).front 2 rfl).front 2 rfl)
  have hNl : N.length = B.length := by rw [← terms_len, hN]
  have hfewA := hA.few
  have hfewB := hB.few
  obtain ⟨m, hm⟩ := Sep.prOut h2.s
  have hml : m.len = M.length := by have := (hm.rowLen 1 rfl).1; rwa [toI_len] at this
  refine ⟨pp, rfl, _, _, _, hm.cell 0 rfl 2 rfl, ?_⟩
  generalize hRR : (fun (v : Value) (w' : World) => ∃ k A' M', v = .int .i64 k ∧ At W w' (pairL pp a b M' A' B ++ R) ∧ PairTo A B M A' M' ∧ Rel A' B k i) = RR
  unfold trystlaw10_Pair_T.l3
  refine ⟨fun t w' => ∃ A' M', t = ((M'.length : Nat) : Int) ∧ PairTo A B M A' M' ∧ At W w' (prA pp a b M' :: arT a A' :: pgA b N :: R), fun t _ => B.length - t.toNat, ⟨A, M, by rw [hml], PairTo.refl hp, h2⟩, ?_⟩
  rintro _ w1 ⟨A', M', rfl, hto, h3⟩
  have hM'l := hto.ok.len
  have hfew' := hto.few
  -- the end
  have fin : (i < M'.length ∨ M'.length = B.length) → trystlaw10_Pair_T.c2 RR (some pp) i w1 := by
    intro hend
    unfold trystlaw10_Pair_T.c2
    obtain ⟨m1, hm1⟩ := Sep.prOut h3.s
    have hml1 : m1.len = M'.length := by have := (hm1.rowLen 1 rfl).1; rwa [toI_len] at this
    rw [← hRR]
    refine cond_d (fun hneg => ?_) fun hpos => ⟨pp, rfl, _, _, _, hm1.cell 0 rfl 2 rfl, cond_d (p := (i : Int) ≥ ((m1.len : Nat) : Int)) (fun hge => ?_) fun hlt => ?_⟩
    · exact ⟨-1, A', M', rfl, t_out hN h3, hto, ⟨fun hx => by unfold inT at hx; omega, fun _ => rfl⟩⟩
    · exact ⟨-1, A', M', rfl, t_out hN h3, hto, ⟨fun hx => by unfold inT at hx; omega, fun _ => rfl⟩⟩
    · unfold trystlaw10_Pair_T.c1
      have hlt' : i.toNat < M'.length := by omega
      obtain ⟨q, hq, hc⟩ := hm1.rowCell 1 rfl (j := i.toNat) (by rw [List.length_map, toI_len]; exact hlt')
      refine ⟨pp, rfl, _, _, _, hm1.cell 0 rfl 2 rfl, by omega, by omega, q, hq, ((M'[i.toNat] : Nat) : Int), hc i.toNat _ (by rw [List.getElem?_map, toI_at hlt']; rfl), _, A', M', rfl, t_out hN h3, hto, ⟨fun _ => ⟨by omega, ?_⟩, fun hx => by unfold inT at hx; omega⟩⟩
      rw [Int.toNat_natCast]
      exact hto.ok.at_ _ _ (List.getElem?_eq_getElem hlt')
  unfold trystlaw10_Pair_T.b3
  refine cond_d (p := ((M'.length : Nat) : Int) ≤ i) (fun hle => ?_) fun hnle => fin (.inl (by omega))
  obtain ⟨c0, c1⟩ := prCells h3.s
  have h3b : At W w1 (pgA b N :: prA pp a b M' :: arT a A' :: R) := h3.front 2 rfl
  obtain ⟨ba, bc, hbc, hnode⟩ := pg_at h3b.s
  refine ⟨pp, rfl, some b, c1, b, rfl, _, _, _, hbc, cond_d (p := ((M'.length : Nat) : Int) < ((N.length : Nat) : Int)) (fun hlt => ?_) fun hge => fin (.inr (by omega))⟩
  have hlt' : M'.length < B.length := by omega
  obtain ⟨sx, hx⟩ := node_at (N := N) (i := M'.length) (by rw [hN]; exact hlt')
  rw [hN] at hx
  have hu : B[M'.length]? = some (tmAt B ((M'.length : Nat) : Int)) := (at_nat hlt').2
  obtain ⟨u, hue⟩ : ∃ u, u = tmAt B ((M'.length : Nat) : Int) := ⟨_, rfl⟩
  rw [← hue] at hx hu
  obtain ⟨q, hq, d0, d1, d2, _⟩ := hnode _ _ hx
  unfold trystlaw10_Pair_T.c5
  refine ⟨pp, rfl, some b, c1, b, rfl, _, _, _, hbc, by omega, by omega, q, hq, _, by rw [Int.toNat_natCast]; exact d0, _, by rw [Int.toNat_natCast]; exact d1, _, _, _, by rw [Int.toNat_natCast]; exact d2, ?_⟩
  intro w4
  obtain ⟨r4, h5s, hb5⟩ := Sep.tmp3 h3.s 98 (.int .i64 0) (.int .i64 0) (.slice none 0 0) (.int .i64 u.kind) (.int .i64 u.n) (.slice sx.a sx.len sx.cap)
  refine ⟨r4, ?_⟩
  intro w5
  have h5 : At W w5 (boxA (newA w1) (tmC u sx) :: prA pp a b M' :: arT a A' :: pgA b N :: R) := h3.go h5s hb5
  clear_value w5
  generalize newA w1 = tb at h5 ⊢
  have h6 : At W w5.drew (prA pp a b M' :: boxA tb (tmC u sx) :: arT a A' :: pgA b N :: R) := h5.drew.swap
  have cells : ∀ {y : World} {L : List Asn}, Sep W.heap.size y (L ++ (prA pp a b M' :: boxA tb (tmC u sx) :: arT a A' :: pgA b N :: R)) → y.cell? pp = some (.pointer (some a)) ∧ y.cell? tb = some (.int .i64 u.kind) ∧ y.cell? (tb.add 1) = some (.int .i64 u.n) ∧ y.cell? (tb.add 2) = some (.slice sx.a sx.len sx.cap) := fun hs =>
    ⟨(prCells hs.dropL).1, (hs.dropL.drop).cell0 0 rfl rfl, (hs.dropL.drop).cell 0 rfl 1 rfl, (hs.dropL.drop).cell 0 rfl 2 rfl⟩
  refine ⟨fun y => y.cell? pp = some (.pointer (some a)) ∧ y.cell? tb = some (.int .i64 u.kind) ∧ y.cell? (tb.add 1) = some (.int .i64 u.n) ∧ y.cell? (tb.add 2) = some (.slice sx.a sx.len sx.cap), cells (L := []) h6.s, pp, rfl, some a, fun y hy => hy.1, _, fun y hy => hy.2.1, _, fun y hy => hy.2.2.1, _, _, _, fun y hy => hy.2.2.2, ?_⟩
  have huargs := hB.argsAt hu
  obtain ⟨_, _, _, k4, _, k6, _⟩ := errZ (hB.good _ _ hu)
  have hml := most_le u.kind
  have hIx : ∀ L w', At W w' (L ++ (boxA tb (tmC u sx) :: arT a A' :: pgA b N :: R)) → Ints .i64 w' sx u.args := by
    intro L w' hs
    have hs2 : Sep W.heap.size w' ((L ++ [boxA tb (tmC u sx), arT a A']) ++ (pgA b N :: R)) := by rw [List.append_assoc]; exact hs.s
    obtain ⟨_, _, _, hn⟩ := pg_at hs2.dropL
    obtain ⟨_, _, _, _, _, hI⟩ := hn _ _ hx
    exact hI
  refine (ts_small h6 (xs := u.args) (s := sx) (fun x hx => huargs x hx) (by omega) (by omega) hIx).mono ?_
  rintro _ w6 ⟨s6, rfl, h7⟩
  refine ⟨_, _, _, rfl, cells (L := [_]) h7.s, ?_⟩
  have hA' : TOk A' := (h3.front 1 rfl).ok
  obtain ⟨x, g1, g2, g3, g4⟩ := hto.ok.next hA' hB hlt' (by omega) hu rfl
  have hun : u.n ≤ 9223372036854775807 := hnb u (List.mem_of_getElem? hu)
  have h7a : At W w6 (arT a A' :: ownA s6 (u.args.map fun y => (((M'[y.toNat]?).getD 0 : Nat) : Int)) :: prA pp a b M' :: boxA tb (tmC u sx) :: pgA b N :: R) := h7.front 3 rfl
  refine (make_row 0 u.kind u.n rfl h7a hun (by rw [List.length_map]; omega)).mono ?_
  rintro _ w7 ⟨rfl, h8⟩
  refine ⟨_, _, rfl, ?_⟩
  rw [g1, g2]
  refine cond_n (fun h => absurd rfl h) fun _ => ?_
  unfold trystlaw10_Pair_T.c4
  have h9 := h8.front 2 rfl
  obtain ⟨m9, h9s⟩ := Sep.prOut h9.s
  have hml9 : m9.len = M'.length := by have := (h9s.rowLen 1 rfl).1; rwa [toI_len] at this
  refine ⟨pp, rfl, _, _, _, h9s.cell 0 rfl 2 rfl, ?_⟩
  intro w10
  obtain ⟨s11, w11, hr11, h11, hb11⟩ := more9 1 rfl h9s (x : Int) (by rw [toI_len]; omega)
  refine ⟨_, _, _, _, hr11, pp, rfl, h11.wr 0 rfl (j := 2) (by simp), ?_⟩
  obtain ⟨h12, hb12⟩ := h11.set 0 rfl (j := 2) (by simp) (.slice s11.a s11.len s11.cap)
  intro w12
  have h13 := (h12.less 4 rfl).less 3 rfl
  have e : toI M' ++ [((x : Nat) : Int)] = toI (M' ++ [x]) := by rw [toI_app]; rfl
  have h14 : Sep W.heap.size w12 (prL pp a b s11 (M' ++ [x]) ++ (arT a (put A' ⟨u.kind, u.n, u.args.map fun y => (((M'[y.toNat]?).getD 0 : Nat) : Int)⟩).1 :: pgA b N :: R)) := by
    unfold prL
    rw [← e]
    exact h13
  have h15 : At W w12 (prA pp a b (M' ++ [x]) :: arT a (put A' ⟨u.kind, u.n, u.args.map fun y => (((M'[y.toNat]?).getD 0 : Nat) : Int)⟩).1 :: pgA b N :: R) := h9.go (Sep.prIn h14) (hb11.trans hb12)
  dsimp only
  rw [inc (by omega)]
  have gl := put_len1 A' ⟨u.kind, u.n, u.args.map fun y => (((M'[y.toNat]?).getD 0 : Nat) : Int)⟩
  refine ⟨⟨rfl, rfl, _, M' ++ [x], by simp, hto.trans ⟨g3, Ext.put _ _, by simp; omega, g4, by simp⟩, h15⟩, by (try dsimp only); omega⟩

/-- many of them -/
def RelL (A B : List Tm) (ks xs : List Int) : Prop := ks.length = xs.length ∧ ∀ (q : Nat) (k x : Int), ks[q]? = some k → xs[q]? = some x → Rel A B k x

theorem RelL.mono {A B A' : List Tm} (hA : Ext A A') {ks xs : List Int} (h : RelL A B ks xs) : RelL A' B ks xs := ⟨h.1, fun q k x hk hx => (h.2 q k x hk hx).mono hA⟩
theorem RelL.same {A B : List Tm} (hA : TOk A) (hB : TOk B) (he : Ext B A) {ks xs : List Int} (h : RelL A B ks xs) : ks = xs.map fun x => if inT B x then x else -1 := by
  apply List.ext_getElem (by rw [List.length_map]; exact h.1)
  intro q h1 h2
  rw [List.getElem_map]
  have hq : q < xs.length := by rw [← h.1]; exact h1
  exact (h.2 q _ _ (List.getElem?_eq_getElem h1) (List.getElem?_eq_getElem hq)).same hA hB he
theorem RelL.all {A B : List Tm} {ks xs : List Int} (h : RelL A B ks xs) : (∀ k ∈ ks, inT A k) ↔ ∀ x ∈ xs, inT B x := by
  constructor
  · intro hk x hx
    obtain ⟨q, hq, rfl⟩ := List.mem_iff_getElem.1 hx
    have hq' : q < ks.length := by rw [h.1]; exact hq
    exact (h.2 q _ _ (List.getElem?_eq_getElem hq') (List.getElem?_eq_getElem hq)).inT.1 (hk _ (List.getElem_mem hq'))
  · intro hx k hk
    obtain ⟨q, hq, rfl⟩ := List.mem_iff_getElem.1 hk
    have hq' : q < xs.length := by rw [← h.1]; exact hq
    exact (h.2 q _ _ (List.getElem?_eq_getElem hq) (List.getElem?_eq_getElem hq')).inT.2 (hx _ (List.getElem_mem hq'))

set_option maxRecDepth 100000 in
theorem pairTs (h : At W w (pairL pp a b M A B ++ R)) (hp : PairOk A B M) (hnb : Nb B) (hs : A.length + (B.length - M.length) ≤ 1000000) {s : Sl} {xs : List Int} (hl : xs.length ≤ 1000000) (hI : ∀ L w', At W w' (L ++ R) → Ints .i64 w' s xs) :
    CallsV Tryd.prog n_trystlaw10_Pair_Ts #[.pointer (some pp), .slice s.a s.len s.cap] w fun v w' => ∃ (s' : Sl) (ks : List Int) (A' : List Tm) (M' : List Nat), v = .slice s'.a s'.len s'.cap ∧ At W w' (pairL pp a b M' A' B ++ (ownA s' ks :: R)) ∧ PairTo A B M A' M' ∧ RelL A' B ks xs := by
  refine trystlaw10_Pair_Ts.lift ?_
  unfold trystlaw10_Pair_Ts.main trystlaw10_Pair_Ts.l1
  have hlen := (hI [_, _, _] w h).len
  have h0 : At W w (pairL pp a b M A B ++ (ownA ⟨none, 0, 0⟩ [] :: R)) := (h.nil).perm (by
    show List.Perm (_ :: (pairL pp a b M A B ++ R)) _
    exact List.perm_middle.symm)
  refine ⟨fun x w' => ∃ (k : Nat) (ks : List Int) (A' : List Tm) (M' : List Nat), x.2 = k ∧ k ≤ xs.length ∧ At W w' (pairL pp a b M' A' B ++ (ownA x.1 ks :: R)) ∧ PairTo A B M A' M' ∧ RelL A' B ks (xs.take k), fun x _ => xs.length - x.2.toNat, ⟨0, [], A, M, rfl, Nat.zero_le _, h0, PairTo.refl hp, ⟨rfl, fun q k x hk => by simp at hk⟩⟩, ?_⟩
  rintro ⟨s1, _⟩ w1 ⟨k, ks, A', M', rfl, hk, h1, hto, hrel⟩
  show trystlaw10_Pair_Ts.b1 _ _ (some pp) s s1 (k : Int) w1
  unfold trystlaw10_Pair_Ts.b1
  have hksl : ks.length = k := by rw [hrel.1, List.length_take]; omega
  refine cond_d (p := ((k : Nat) : Int) < ((s.len : Nat) : Int)) (fun hlt => ?_) fun hge => ?_
  · have hk' : k < xs.length := by omega
    obtain ⟨q, hq, hc⟩ := (hI [_, _, _, _] w1 h1).get (i := (k : Int)) (by omega) hlt
    rw [Int.toNat_natCast, List.getElem?_eq_getElem hk', Option.getD_some] at hc
    refine ⟨by omega, hlt, q, hq, _, by rw [Int.toNat_natCast]; exact hc, ?_⟩
    have hfew := hto.few
    refine (pairT h1 hto.ok hnb (by omega) xs[k]).mono ?_
    rintro _ w2 ⟨x, A2, M2, rfl, h2, hto2, hr2⟩
    refine ⟨_, rfl, ?_⟩
    intro w3
    obtain ⟨s4, w4, hr4, h4⟩ := more_at 3 rfl h2 x (by omega)
    refine ⟨_, _, _, _, hr4, ?_⟩
    dsimp only
    rw [inc (by omega)]
    refine ⟨⟨rfl, rfl, k + 1, ks ++ [x], A2, M2, rfl, by omega, h4, hto.trans hto2, ?_, ?_⟩, by (try dsimp only); omega⟩
    · rw [List.length_append, hksl, List.length_take]; simp; omega
    · intro q y z hy hz
      rw [List.getElem?_take] at hz
      split at hz
      · rename_i hq1
        rw [List.getElem?_append] at hy
        split at hy
        · rename_i hq2
          exact (hrel.2 q y z hy (by rw [List.getElem?_take, if_pos (by omega)]; exact hz)).mono hto2.ext
        · have e : q = k := by omega
          subst e
          rw [hksl, Nat.sub_self] at hy
          simp at hy
          subst hy
          rw [List.getElem?_eq_getElem hk'] at hz
          obtain rfl := Option.some.inj hz
          exact hr2
      · cases hz
  · rw [List.take_of_length_le (by omega)] at hrel
    exact ⟨s1, ks, A', M', rfl, h1, hto, hrel⟩
end

end Go.Proofs.YtoclhecldmahiaaDoor

/-
  Puts into an arena, good and bad ones.
-/
set_option linter.unusedVariables false
set_option linter.unusedSimpArgs false
namespace Go.Proofs.YtoclhecldmahiaaDoor
open Go.Lf Go.RowKit

/-- a good put -/
theorem putG {T : List Tm} {t : Tm} (he : errOf T t = 0) (hl : T.length < 1048576) : (put T t).2.2 = 0 ∧ inT (put T t).1 (put T t).2.1 := by
  obtain ⟨k, h1, h2, h3⟩ := putAt he hl
  exact ⟨h2, by rw [h1]; exact inT_of h3⟩
theorem err_kdf {T : List Tm} {s n : Int} (hs : inT T s) (hn : 0 ≤ n) : errOf T ⟨4, n, [s]⟩ = 0 := errOk (by simp) hn (.inl (.inr (.inr rfl))) (by simp [least]) (by simp [mostOf]) (by simpa using hs)
theorem err_word {T : List Tm} {n : Int} (hn : 0 ≤ n) : errOf T ⟨2, n, []⟩ = 0 := errOk (by simp) hn (.inl (.inr (.inl rfl))) (by simp [least]) (by simp) (by simp)
/-- what a step that puts terms leaves -/
structure Grown (T T' : List Tm) (k : Nat) : Prop where
  ext : Ext T T'
  len : T'.length ≤ T.length + k
  nb : Nb T → Nb T'
theorem Grown.refl (T : List Tm) : Grown T T 0 := ⟨Ext.refl _, Nat.le_refl _, fun h => h⟩
theorem Grown.put (T : List Tm) {t : Tm} (hn : t.n ≤ 9223372036854775807) : Grown T (put T t).1 1 := ⟨Ext.put _ _, (put_len1 T t).1, fun h => h.put hn⟩
theorem Grown.trans {A B C : List Tm} {i j : Nat} (h : Grown A B i) (k : Grown B C j) : Grown A C (i + j) := ⟨h.ext.trans k.ext, by have := h.len; have := k.len; omega, fun hn => k.nb (h.nb hn)⟩

theorem some_two {α : Type} {o : Option α} {a b : α} (h : o = some a) (h' : o = some b) : a = b := Option.some.inj (h.symm.trans h')

section
variable {W w : World} {L R : List Asn} {p : Addr} {T : List Tm}

end


end Go.Proofs.YtoclhecldmahiaaDoor
