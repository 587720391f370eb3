/-
  DiskExact: a step on both disks; are they alike; its contract.
-/
import Derived.Test.YtnnpkjhpeefnbaaDiK
import Derived.Test.YtnnpkjhpeefnbaaDiH
set_option linter.unusedVariables false
set_option linter.unusedSimpArgs false
namespace Go.Proofs.Ytnnpkjhpeefnbaa
open Go.Lf Go.RowKit

theorem rnew_spec {B : Nat} {w : World} {R : List Asn} (h : Sep B w R) (n : Nat) (h1 : 1 ≤ n) (h512 : n ≤ 512) : CallsV Try.prog n_trystref10_New #[.int .i64 (n : Int)] w fun v w' => ∃ r : Addr, v = .pointer (some r) ∧ Sep B w' (refA r (newD n) :: R) ∧ Below B w w' := by
  refine trystref10_New.lift ?_
  unfold trystref10_New.main
  refine cond_d (fun _ => by omega) fun _ => cond_d (fun _ => by omega) fun _ => ?_
  unfold trystref10_New.c2
  refine ⟨by omega, by omega, by omega, by omega, ?_⟩
  rw [Int.toNat_natCast]
  have hT : (w.alloc (.cells ((Array.range (n * 1)).map ((#[.bool false] : Array Value)[· % (#[.bool false] : Array Value).size]!)) 4)).ownsRow w.heap.size 4 1 (.slice (some (newA w)) n n) n (List.replicate n (.bool false)) := by
    rw [range_cells]
    exact row_made (by simp) (by unfold maxLen; omega)
  intro w5
  have hb5 : Below w.heap.size w w5 := below_alloc _ _
  have hz : ∀ e s F (u : World), (rowA e s ⟨none, 0, 0⟩ 0 []).on F u := fun e s F u => ⟨World.ownsRow_nil _ _ _ _, fun q hq => by cases hq⟩
  have hnew : ∀ {A : Asn} {l : List Asn} {u : World}, (∀ F (u : World), A.on F u) → Sep B u l → Sep B u (A :: l) := fun hA hl => hl.new (F := fun _ => False) (hA _ _) (fun _ hh => hh.elim) (Below.refl _ _)
  have g0 : Sep B w5 (rowA 4 1 ⟨some (newA w), n, n⟩ n (List.replicate n (.bool false)) :: R) := Sep.row (s := ⟨some (newA w), n, n⟩) h hT hb5
  intro w6
  obtain ⟨g1, hb6⟩ := Sep.box g0 [.slice none 0 0, .slice (some (newA w)) n n, .slice none 0 0, .bool false, .int .i64 0, .slice none 0 0, .int .i64 0] 92
  generalize newA w5 = r at *
  have hd : Sep B w6 (rl r ⟨⟨none, 0, 0⟩, ⟨some (newA w), n, n⟩, ⟨none, 0, 0⟩, ⟨none, 0, 0⟩, [], List.replicate n false, [], 0, [], 0, []⟩ false ++ R) := by
    have k0 := g1.swap
    have k1 : Sep B w6 (rowA 4 1 ⟨some (newA w), n, n⟩ n (List.replicate n (.bool false)) :: boxA r _ :: intsAll .u8 [] :: R) := (k0.intsNil .u8).perm ((List.Perm.swap _ _ _).trans ((List.Perm.swap _ _ _).cons _))
    have k2 := hnew (hz 52 1) (hnew (hz 98 2) (hnew (hz 4 1) k1))
    have k3 : Sep B w6 ([boxA r [.slice none 0 0, .slice (some (newA w)) n n, .slice none 0 0, .bool false, .int .i64 0, .slice none 0 0, .int .i64 0], rowA 52 1 ⟨none, 0, 0⟩ 0 [], rowA 4 1 ⟨some (newA w), n, n⟩ n (List.replicate n (.bool false)), rowA 98 2 ⟨none, 0, 0⟩ 0 [], rowA 4 1 ⟨none, 0, 0⟩ 0 [], intsAll .u8 []] ++ R) := by
      refine k2.perm ?_
      -- the box in front, the flags third
      refine (perm_front (k := 4) rfl).trans ?_
      refine List.Perm.cons _ ?_
      refine List.Perm.cons _ ?_
      exact perm_front (k := 2) rfl
    unfold rl
    simp only [List.length_replicate, List.map_replicate, List.length_nil, List.map_nil]
    exact k3
  unfold trystref10_New.l1
  refine ⟨fun t w' => ∃ k : Nat, t = k ∧ k ≤ n ∧ ∃ (sS : Sl) (S : List (Sl × List Int)) (L : List (Sl × List Int)), S.length = k ∧ (∀ y ∈ S, y ∈ L ∧ y.2 = List.replicate 64 0) ∧
    Sep B w' (rl r ⟨sS, ⟨some (newA w), n, n⟩, ⟨none, 0, 0⟩, ⟨none, 0, 0⟩, S, List.replicate n false, [], 0, [], 0, L⟩ false ++ R) ∧ Below B w w', fun t _ => n - t.toNat, ⟨0, rfl, Nat.zero_le _, ⟨none, 0, 0⟩, [], [], rfl, (fun y hy => by cases hy), hd, (hb5.mono h.le).trans hb6⟩, ?_⟩
  rintro _ w1 ⟨k, rfl, hkl, sS, S, L, hSl, hSL, hS, hb⟩
  unfold trystref10_New.b1
  refine cond_d (fun hlt => ?_) fun hge => ?_
  · have hk : k < n := by omega
    refine ⟨fun u => u.cell? r = some (.slice sS.a sS.len sS.cap), hS.cell0 0 rfl rfl, r, rfl, _, _, _, fun u hu => hu, by omega, by omega, by omega, by omega, ?_⟩
    have hmk := make_ints (w := w1.drew) (n := 64) (e := 5) (k := .u8) (by unfold maxLen; omega)
    intro w3
    have hb3 : Below w1.drew.heap.size w1.drew w3 := below_alloc _ _
    have hS3 := Sep.intsMore 5 rfl hS.drew hmk (by simp) hb3
    have hB3 : Below B w w3 := (hb.trans ((Same.drew w1).below B)).next hb3 h.le
    refine ⟨hS3.cell0 0 rfl rfl, ?_⟩
    intro w4
    obtain ⟨hS4, hb4⟩ := Sep.box hS3 [.slice (some (newA w1.drew)) 64 64] 52
    obtain ⟨ii, hi, hz', hsz, hby⟩ : ∃ i, Try.prog.info? 52 = some i ∧ i.zero = some (.slice none 0 0) ∧ i.size = 1 ∧ i.bytes = 24 := ⟨Try.t52, by kernel_rfl, by kernel_rfl, by kernel_rfl, by kernel_rfl⟩
    obtain ⟨sS', w5', hrun, hlS', hS5, hb5'⟩ := Sep.append (ty := 58) (c := 1) Try.underlying58 hi hz' hsz hby rfl (by omega) 1 rfl hS4.drop (m := 1) (news := [.slice (some (newA w1.drew)) 64 64]) rfl (fun m u hu => hS4.cell 0 rfl m hu) (by intro u hu; simp at hu; subst hu; rfl) (by unfold maxLen; simp only; omega) (by simp only; omega) (by omega)
    refine ⟨hS4.drop.cell0 0 rfl rfl, _, _, _, _, hrun, r, rfl, hS5.wr0 0 rfl (by simp), ?_⟩
    intro w6'
    obtain ⟨hS6, hb6'⟩ := hS5.set0 0 rfl (by simp) (.slice sS'.a sS'.len sS'.cap)
    rw [inc (by omega)]
    refine ⟨⟨rfl, rfl, k + 1, rfl, hk, sS', S ++ [(⟨some (newA w1.drew), 64, 64⟩, List.replicate 64 0)], (⟨some (newA w1.drew), 64, 64⟩, List.replicate 64 0) :: L, by simp [hSl], ?_, ?_, ((hB3.trans hb4).trans hb5').trans hb6'⟩, by (try dsimp only); omega⟩
    · intro y hy
      rcases List.mem_append.1 hy with hy | hy
      · exact ⟨List.mem_cons_of_mem _ (hSL y hy).1, (hSL y hy).2⟩
      · simp only [List.mem_singleton] at hy; subst hy
        exact ⟨List.mem_cons_self, rfl⟩
    · unfold rl
      simp only [List.length_append, List.length_cons, List.length_nil, Nat.zero_add, List.map_append, List.map_cons, List.map_nil]
      exact hS6
  · have hke : k = n := by omega
    subst hke
    refine ⟨r, rfl, ?_, hb⟩
    refine Sep.fold ⟨sS, ⟨some (newA w), k, k⟩, ⟨none, 0, 0⟩, ⟨none, 0, 0⟩, S, List.replicate k false, [], 0, [], 0, L⟩ ⟨?_, by rw [List.length_replicate, hSl], rfl, fun y hy => (hSL y hy).1, (fun y hy => by cases hy), rfl, by simp only; omega, by simp only; omega⟩ hS
    show List.replicate k (some (List.replicate 64 0)) = safeR (List.replicate k false) S
    apply List.ext_getElem?
    intro j
    by_cases hj : j < k
    · obtain ⟨y, hy⟩ : ∃ y, S[j]? = some y := ⟨_, List.getElem?_eq_getElem (by omega)⟩
      rw [safeR_get (t := false) (by rw [List.getElem?_replicate, if_pos hj]) hy, List.getElem?_replicate, if_pos hj, valR, (hSL y (List.mem_of_getElem? hy)).2]; rfl
    · rw [List.getElem?_eq_none (by rw [List.length_replicate]; omega), List.getElem?_eq_none (by rw [safeR_length (by rw [List.length_replicate, hSl])]; omega)]

theorem spoil_spec {B : Nat} {w : World} {s : Sl} {xs : List Int} {R : List Asn} (h : Sep B w (rowA 5 1 s xs.length (xs.map (Value.int .u8)) :: R)) (hx : xs.length ≤ 9223372036854775807) :
    CallsV Try.prog n_trystkeep_SpoilBytes #[.slice s.a s.len s.cap] w fun v w' => v = .tuple #[] ∧ Sep B w' R ∧ Below B w w' := by
  refine trystkeep_SpoilBytes.lift ?_
  unfold trystkeep_SpoilBytes.main trystkeep_SpoilBytes.l1
  have hl := (h.rowLen 0 rfl).1
  refine ⟨fun t w' => ∃ k : Nat, t = k ∧ k ≤ xs.length ∧ ∃ ys : List Int, ys.length = xs.length ∧ Sep B w' (rowA 5 1 s ys.length (ys.map (Value.int .u8)) :: R) ∧ Below B w w', fun t _ => xs.length - t.toNat, ⟨0, rfl, Nat.zero_le _, xs, rfl, h, Below.refl _ _⟩, ?_⟩
  rintro _ w1 ⟨k, rfl, hk, ys, hy, h1, hb⟩
  unfold trystkeep_SpoilBytes.b1
  refine cond_d (fun hlt => ?_) fun hge => ⟨rfl, h1.drop, hb⟩
  have hk' : k < ys.length := by omega
  obtain ⟨q, hq, hc⟩ := h1.rowCell 0 rfl (j := k) (by rw [List.length_map]; exact hk')
  obtain ⟨h2, hb2⟩ := h1.rowSet 0 rfl hq (j := k) (by rw [List.length_map]; exact hk') (.int .u8 (IntKind.u8.wrap (ys[k] + 101)))
  refine ⟨by omega, hlt, q, hq, ys[k], by rw [Int.toNat_natCast]; exact hc k _ (by rw [List.getElem?_map, List.getElem?_eq_getElem hk']; rfl), by omega, hlt, q, hq, by rw [Int.toNat_natCast]; exact h1.rowWr 0 rfl hq (by rw [List.length_map]; exact hk'), ?_⟩
  rw [Int.toNat_natCast, inc (by omega)]
  refine ⟨⟨rfl, k + 1, rfl, by omega, ys.set k (IntKind.u8.wrap (ys[k] + 101)), by rw [List.length_set, hy], ?_, hb.trans hb2⟩, by (try dsimp only); omega⟩
  rw [List.length_set, List.map_set]; exact h2

theorem boolsEq_spec {w : World} {s t : Sl} {xs ys : List Bool} (h : BoolsR w s xs) (h' : BoolsR w t ys) (hx : xs.length ≤ 1000000000) :
    CallsV Try.prog n_trystkeep_Bools #[.slice s.a s.len s.cap, .slice t.a t.len t.cap] w fun v w' => v = .bool (decide (xs = ys)) ∧ Same w w' := by
  refine trystkeep_Bools.lift ?_
  have hl := h.len
  have hl' := h'.len
  unfold trystkeep_Bools.main
  refine cond_n (fun hne => ⟨by rw [decide_eq_false (fun he => hne (by rw [hl, hl', he]))], Same.refl _⟩) fun he => ?_
  unfold trystkeep_Bools.l1
  refine ⟨fun st w' => Same w w' ∧ ∃ k : Nat, st = k ∧ k ≤ xs.length ∧ xs.take k = ys.take k, fun st _ => xs.length - st.toNat, ⟨Same.refl _, 0, rfl, Nat.zero_le _, rfl⟩, ?_⟩
  rintro _ w' ⟨hs, k, rfl, hle, htk⟩
  unfold trystkeep_Bools.b1
  refine cond_d (fun hlt => ?_) fun hge => ⟨?_, hs⟩
  · obtain ⟨p, hp, hc⟩ := h.get (i := k) hlt
    obtain ⟨q, hq, hd⟩ := h'.get (i := k) (by omega)
    rw [← hs.cell] at hc hd
    refine ⟨by omega, by omega, p, hp, _, by rw [Int.toNat_natCast]; exact hc, by omega, by omega, q, hq, _, by rw [Int.toNat_natCast]; exact hd, ?_⟩
    have hk : k < xs.length := by omega
    have hk' : k < ys.length := by omega
    rw [List.getElem?_eq_getElem hk, List.getElem?_eq_getElem hk', Option.getD_some, Option.getD_some, inc (by omega)]
    refine cond_not (fun hne => ⟨?_, hs.drew'⟩) fun heq => ?_
    · rw [decide_eq_false]
      intro hxy
      subst hxy
      simp at hne
    · have heq : xs[k] = ys[k] := by simpa using heq
      refine ⟨⟨rfl, rfl, hs.drew', k + 1, rfl, by omega, ?_⟩, by (try dsimp only); omega⟩
      rw [List.take_succ_eq_append_getElem hk, List.take_succ_eq_append_getElem hk', htk, heq]
  · rw [decide_eq_true]
    rwa [List.take_of_length_le (by omega), List.take_of_length_le (by omega)] at htk

theorem _root_.Go.Lf.Sep.rowBools {B : Nat} {w : World} {l : List Asn} (k : Nat) {e : TypeId} {s : Sl} {bs : List Bool} (hk : l[k]? = some (rowA e 1 s bs.length (bs.map Value.bool))) (h : Sep B w l) : BoolsR w s bs := by
  refine ⟨(h.rowLen k hk).1, fun i b hib => ?_⟩
  obtain ⟨p, hp, hc⟩ := h.rowCell k hk (j := i) (by rw [List.length_map]; exact (List.getElem?_eq_some_iff.1 hib).1)
  exact ⟨p, hp, hc i _ (by rw [List.getElem?_map, hib]; rfl)⟩

theorem rstart {B : Nat} {w : World} {r : Addr} {st : DS} {R : List Asn} (h : Sep B w (refA r st :: R)) : Wr w (r.add 3) ∧ Sep B (w.setCell (r.add 3) (.bool false)) (refA r (startD st) :: R) ∧ Below B w (w.setCell (r.add 3) (.bool false)) := by
  obtain ⟨x, hx, hS⟩ := h.unfold
  obtain ⟨h2, hb⟩ := hS.set 0 rfl (j := 3) (by simp) (.bool false)
  exact ⟨hS.wr 0 rfl (j := 3) (by simp), Sep.fold x ⟨hx.safe, hx.lenT, hx.pend, hx.inS, hx.inW, hx.trip, hx.small, hx.few⟩ h2, hb⟩

theorem step13_spec {B : Nat} {w : World} {d r : Addr} {st : DS} {R : List Asn} (h : Sep B w (diskA d st :: refA r st :: R)) {n : Nat} (hwf : Wf n st) (hn : n ≤ 1000) {a : Act} {sb sk : Sl} (hai : a.i ≤ 9223372036854775807) (hb200 : a.b.length ≤ 200) (hk200 : a.keep.length ≤ 200)
    (hIn : ∀ w', Below B w w' → Ints .u8 w' sb a.b) (hKn : ∀ w', Below B w w' → BoolsR w' sk a.keep) :
    CallsV Try.prog n_trystlaw13_step #[.pointer (some d), .pointer (some r), .agg #[.int .i64 a.what, .int .i64 a.i, .slice sb.a sb.len sb.cap, .bool a.raw, .slice sk.a sk.len sk.cap, .int .i64 a.torn]] w fun v w' => v = .bool true ∧ ∃ st', Wf (n + 1) st' ∧ st'.safe.length = st.safe.length ∧ Sep B w' (diskA d st' :: refA r st' :: R) ∧ Below B w w' := by
  refine trystlaw13_step.lift ?_
  unfold trystlaw13_step.main
  intro w10
  obtain ⟨hA, hb10⟩ := Sep.box h [.int .i64 a.what, .int .i64 a.i, .slice sb.a sb.len sb.cap, .bool a.raw, .slice sk.a sk.len sk.cap, .int .i64 a.torn] 63
  have hA : Sep B w10 (boxA (newA w) [.int .i64 a.what, .int .i64 a.i, .slice sb.a sb.len sb.cap, .bool a.raw, .slice sk.a sk.len sk.cap, .int .i64 a.torn] :: diskA d st :: refA r st :: R) := hA
  have hb10 : Below B w w10 := hb10
  clear_value w10
  generalize hcs : ([.int .i64 a.what, .int .i64 a.i, .slice sb.a sb.len sb.cap, .bool a.raw, .slice sk.a sk.len sk.cap, .int .i64 a.torn] : List Value) = cs at hA
  generalize newA w = q at *
  have lenS : ∀ kl t, (crashD st kl t).safe.length = st.safe.length := fun kl t => by unfold crashD; split; rfl; exact crashSafe_length _ _ _ _ _
  have lenT : ∀ st0 : DS, st0.off = false → (tripsD st0).2.safe.length = st0.safe.length := fun st0 ho => by rw [tripsD_eq ho]; split; exact crashSafe_length _ _ _ _ _; rfl
  have hpl := hwf.pend
  -- the act's own cells
  have cellOf : ∀ {w' : World} {l : List Asn} (k : Nat), l[k]? = some (boxA q cs) → Sep B w' l → ∀ (j : Nat) u, ([.int .i64 a.what, .int .i64 a.i, .slice sb.a sb.len sb.cap, .bool a.raw, .slice sk.a sk.len sk.cap, .int .i64 a.torn] : List Value)[j]? = some u → w'.cell? (q.add j) = some u := fun k hk hS j u hu => hS.cell k hk j (by rw [← hcs]; exact hu)
  have c0 := cellOf 0 rfl hA 0 _ rfl
  rw [add_zero] at c0
  have h1 : Sep B w10 (diskA d st :: refA r st :: boxA q cs :: R) := hA.perm ((List.Perm.swap _ _ _).trans ((List.Perm.swap _ _ _).cons _))
  have fin : ∀ {w' : World} {st' : DS}, Sep B w' (diskA d st' :: refA r st' :: boxA q cs :: R) → Sep B w' (diskA d st' :: refA r st' :: R) := fun hh => (hh.front 2 rfl).drop
  refine ⟨_, c0, by omega, ?_⟩
  intro t22
  refine cond_c (fun _ => ?_) fun _ => ?_
  · refine (sync_spec h1 (hwf.d (by omega))).mono ?_
    rintro _ w2 ⟨rfl, h2, hb2⟩
    refine ⟨_, rfl, ?_⟩
    refine (rsync_spec h2.swap (by omega)).mono ?_
    rintro _ w3 ⟨rfl, h3, hb3⟩
    refine ⟨_, rfl, by simp, _, hwf.sync.mono (by omega), ?_, fin h3.swap, (hb10.trans hb2).trans hb3⟩
    unfold syncD
    split
    · rfl
    · rename_i ho
      split
      · exact lenT st (by simpa using ho)
      · show (nowOf _ _).length = _; rw [nowOf_length]; exact lenT st (by simpa using ho)
  intro t29
  refine cond_c (fun _ => ?_) fun _ => ?_
  · refine ⟨_, _, _, cellOf 2 rfl h1 4 _ rfl, ?_⟩
    refine (twinBools_spec (hKn _ hb10) (by omega)).mono ?_
    rintro _ w2 ⟨ks, rfl, ho2, hb2⟩
    have h2 := Sep.row h1 ho2 hb2
    have hB2 := hb10.next hb2 h.le
    refine ⟨_, _, _, rfl, _, cellOf 3 rfl h2 5 _ rfl, ?_⟩
    refine (crash_spec (kl := a.keep) (h2.front 1 rfl) a.torn (by omega) fun w' _ hS => hS.rowBools 0 rfl).mono ?_
    rintro _ w3 ⟨rfl, h3, hb3⟩
    have h3 : Sep B w3 (diskA d (crashD st a.keep a.torn) :: rowA 4 1 ks a.keep.length (a.keep.map Value.bool) :: refA r st :: boxA q cs :: R) := h3
    refine ⟨rfl, _, _, _, cellOf 3 rfl h3 4 _ rfl, _, cellOf 3 rfl h3 5 _ rfl, ?_⟩
    have hB3 := hB2.trans hb3
    refine (rcrash_spec (kl := a.keep) (h3.front 2 rfl) a.torn (by omega) fun w' hb => hKn w' (hB3.trans hb)).mono ?_
    rintro _ w4 ⟨rfl, h4, hb4⟩
    have h4 : Sep B w4 (refA r (crashD st a.keep a.torn) :: diskA d (crashD st a.keep a.torn) :: rowA 4 1 ks a.keep.length (a.keep.map Value.bool) :: boxA q cs :: R) := h4
    refine ⟨rfl, _, _, _, cellOf 3 rfl h4 4 _ rfl, ?_⟩
    refine (boolsEq_spec (h4.rowBools 2 rfl) (hKn w4 (hB3.trans hb4)) (by omega)).mono ?_
    rintro _ w5 ⟨rfl, hs5⟩
    refine ⟨_, rfl, by simp, crashD st a.keep a.torn, (hwf.crash _ _).mono (by omega), lenS _ _, ?_, (hB3.trans hb4).trans (hs5.below _)⟩
    exact fin ((h4.front 2 rfl).drop.swap.same hs5)
  intro t49
  refine cond_c (fun _ => ?_) fun _ => ?_
  · refine (start_spec h1).mono ?_
    rintro _ w2 ⟨rfl, h2, hb2⟩
    obtain ⟨hw, h3, hb3⟩ := rstart h2.swap
    exact ⟨rfl, r, rfl, hw, rfl, _, hwf.start.mono (by omega), rfl, fin h3.swap, (hb10.trans hb2).trans hb3⟩
  intro t56
  refine cond_c (fun _ => ?_) fun _ => ?_
  · refine ⟨_, _, _, cellOf 2 rfl h1 4 _ rfl, ?_⟩
    refine (twinBools_spec (hKn _ hb10) (by omega)).mono ?_
    rintro _ w2 ⟨ks, rfl, ho2, hb2⟩
    have h2 := Sep.row h1 ho2 hb2
    have hB2 := hb10.next hb2 h.le
    refine ⟨_, _, _, rfl, _, cellOf 3 rfl h2 1 _ rfl, _, cellOf 3 rfl h2 5 _ rfl, ?_⟩
    refine (trip_spec (kl := a.keep) (h2.front 1 rfl) a.i a.torn hai (by omega) fun w' _ hS => hS.rowBools 0 rfl).mono ?_
    rintro _ w3 ⟨rfl, h3, hb3⟩
    have h3 : Sep B w3 (diskA d (tripD st a.i a.keep a.torn) :: rowA 4 1 ks a.keep.length (a.keep.map Value.bool) :: refA r st :: boxA q cs :: R) := h3
    refine ⟨rfl, _, cellOf 3 rfl h3 1 _ rfl, _, _, _, cellOf 3 rfl h3 4 _ rfl, _, cellOf 3 rfl h3 5 _ rfl, ?_⟩
    have hB3 := hB2.trans hb3
    refine (rtrip_spec (kl := a.keep) (h3.front 2 rfl) a.i a.torn hai (by omega) (hKn w3 hB3)).mono ?_
    rintro _ w4 ⟨rfl, h4, hb4⟩
    have h4 : Sep B w4 (refA r (tripD st a.i a.keep a.torn) :: diskA d (tripD st a.i a.keep a.torn) :: rowA 4 1 ks a.keep.length (a.keep.map Value.bool) :: boxA q cs :: R) := h4
    refine ⟨rfl, ?_⟩
    have h5 := h4.front 2 rfl
    have hlk := (h5.rowLen 0 rfl).1
    have hB4 := hB3.trans hb4
    unfold trystlaw13_step.l4
    refine ⟨fun t w' => ∃ k : Nat, t = k ∧ k ≤ a.keep.length ∧ ∃ ys : List Bool, ys.length = a.keep.length ∧ Sep B w' (rowA 4 1 ks ys.length (ys.map Value.bool) :: refA r (tripD st a.i a.keep a.torn) :: diskA d (tripD st a.i a.keep a.torn) :: boxA q cs :: R) ∧ Below B w w', fun t _ => a.keep.length - t.toNat,
      ⟨0, rfl, Nat.zero_le _, a.keep, rfl, h5, hB4⟩, ?_⟩
    rintro _ w6 ⟨k, rfl, hk, ys, hy, h6, hb6⟩
    unfold trystlaw13_step.b4
    refine cond_d (fun hlt => ?_) fun hge => ⟨rfl, _, (hwf.tripD (by omega) _ _).mono (by omega), rfl, fin h6.drop.swap, hb6⟩
    have hk' : k < ys.length := by have : (k : Int) < (ks.len : Int) := hlt; omega
    obtain ⟨p, hp, hc⟩ := h6.rowCell 0 rfl (j := k) (by rw [List.length_map]; exact hk')
    obtain ⟨h7, hb7⟩ := h6.rowSet 0 rfl hp (j := k) (by rw [List.length_map]; exact hk') (.bool (!ys[k]))
    refine ⟨by omega, hlt, p, hp, ys[k], by rw [Int.toNat_natCast]; exact hc k _ (by rw [List.getElem?_map, List.getElem?_eq_getElem hk']; rfl), by omega, hlt, p, hp, by rw [Int.toNat_natCast]; exact h6.rowWr 0 rfl hp (by rw [List.length_map]; exact hk'), ?_⟩
    rw [Int.toNat_natCast, inc (by omega)]
    refine ⟨⟨rfl, k + 1, rfl, by omega, ys.set k (!ys[k]), by rw [List.length_set, hy], ?_, hb6.trans hb7⟩, by (try dsimp only); omega⟩
    rw [List.length_set, List.map_set]; exact h7
  intro t90
  refine cond_c (fun _ => ?_) fun _ => ?_
  · refine ⟨_, cellOf 2 rfl h1 1 _ rfl, ?_⟩
    refine (read_spec h1 a.i).mono ?_
    rintro _ w2 ⟨s2, rfl, hI2, h2, hb2⟩
    have hB2 := hb10.next hb2 h.le
    refine ⟨_, _, _, _, rfl, _, cellOf 3 rfl h2 1 _ rfl, ?_⟩
    refine (rread_spec (h2.front 2 rfl) (by omega) a.i).mono ?_
    rintro _ _ ⟨⟨s3, rfl, hI3⟩, rfl⟩
    refine ⟨_, _, _, _, rfl, ?_⟩
    refine (bytes_spec hI2 hI3).mono ?_
    rintro _ w4 ⟨rfl, hs4⟩
    refine ⟨_, rfl, cond_t (by simp) ?_⟩
    unfold trystlaw13_step.c5
    refine (spoil_spec (h2.same hs4) (hI2.len ▸ hI2.small)).mono ?_
    rintro _ w5 ⟨rfl, h5, hb5⟩
    exact ⟨rfl, by simp, _, hwf.mono (by omega), rfl, fin h5, (hB2.trans (hs4.below _)).trans hb5⟩
  -- a write of bytes that are there
  have c2 : ∀ (w2 : World) (b : Sl) (bs : List Int), Sep B w2 (diskA d st :: refA r st :: boxA q cs :: rowA 5 1 b bs.length (bs.map (Value.int .u8)) :: R) → Below B w w2 → bs.length ≤ 1000000000 →
      trystlaw13_step.c2 (fun v w' => v = .bool true ∧ ∃ st', Wf (n + 1) st' ∧ st'.safe.length = st.safe.length ∧ Sep B w' (diskA d st' :: refA r st' :: R) ∧ Below B w w') (some d) (some r) q b w2 := by
    intro w2 b bs h2 hB2 hbs
    unfold trystlaw13_step.c2
    refine (twin_spec (h2.rowInts 3 rfl (by omega)) hbs).mono ?_
    rintro _ w3 ⟨s3, rfl, ho3, hb3⟩
    have h3 := Sep.row h2 ho3 hb3
    have hB3 := hB2.next hb3 h.le
    refine ⟨_, _, _, rfl, fun u => u.cell? (q.add 1) = some (.int .i64 a.i), cellOf 3 rfl h3 1 _ rfl, _, fun u hu => hu, _, fun u hu => hu, ?_⟩
    refine (write_spec (bs := bs) (h3.drew.front 1 rfl) (hwf.d (by omega)) a.i hbs fun w' _ hS => hS.rowInts 0 rfl (by omega)).mono ?_
    rintro _ w4 ⟨rfl, h4, hb4⟩
    have h4 : Sep B w4 (diskA d (writeD st a.i bs).2 :: rowA 5 1 s3 bs.length (bs.map (Value.int .u8)) :: refA r st :: boxA q cs :: rowA 5 1 b bs.length (bs.map (Value.int .u8)) :: R) := h4
    refine ⟨_, rfl, cellOf 3 rfl h4 1 _ rfl, ?_⟩
    refine (rwrite_spec (bs := bs) (h4.front 2 rfl) (by omega) a.i hbs (h4.rowInts 4 rfl (by omega))).mono ?_
    rintro _ w5 ⟨rfl, h5, hb5⟩
    have h5 : Sep B w5 (refA r (writeD st a.i bs).2 :: diskA d (writeD st a.i bs).2 :: rowA 5 1 s3 bs.length (bs.map (Value.int .u8)) :: boxA q cs :: rowA 5 1 b bs.length (bs.map (Value.int .u8)) :: R) := h5
    refine ⟨_, rfl, cond_t (by simp) ?_⟩
    refine (bytes_spec (h5.rowInts 2 rfl (by omega)) (h5.rowInts 4 rfl (by omega))).mono ?_
    rintro _ w6 ⟨rfl, hs6⟩
    refine ⟨_, rfl, ?_⟩
    unfold trystlaw13_step.c1
    have h6 := (h5.same hs6).front 2 rfl
    refine (spoil_spec h6 (by omega)).mono ?_
    rintro _ w7 ⟨rfl, h7, hb7⟩
    have h7 : Sep B w7 (refA r (writeD st a.i bs).2 :: diskA d (writeD st a.i bs).2 :: boxA q cs :: rowA 5 1 b bs.length (bs.map (Value.int .u8)) :: R) := h7
    have hfin : Sep B w7 (diskA d (writeD st a.i bs).2 :: refA r (writeD st a.i bs).2 :: R) := ((h7.swap.front 2 rfl).drop.front 2 rfl).drop
    refine ⟨rfl, by simp, _, hwf.write _ _, ?_, hfin, ((((hB3.trans ((Same.drew w3).below B)).trans hb4).trans hb5).trans (hs6.below _)).trans hb7⟩
    unfold writeD
    split
    · rfl
    · rename_i h0
      split
      · rfl
      · exact lenT (addD st a.i.toNat bs) (wrongD_off (Decidable.not_not.1 h0)).1
  unfold trystlaw13_step.c3
  refine ⟨_, _, _, cellOf 2 rfl h1 2 _ rfl, ?_⟩
  refine (sector_spec (hIn _ hb10)).mono ?_
  rintro _ w2 ⟨s2, rfl, ho2, hb2⟩
  have h2 := Sep.row h1 ho2 hb2
  have hB2 := hb10.next hb2 h.le
  refine ⟨_, _, _, rfl, a.raw, cellOf 3 rfl h2 3 _ rfl, cond_c (fun _ => ?_) fun _ => ?_⟩
  · refine ⟨_, _, _, cellOf 3 rfl h2 2 _ rfl, ?_⟩
    refine (twin_spec (hIn _ hB2) (by omega)).mono ?_
    rintro _ w3 ⟨s3, rfl, ho3, hb3⟩
    have h3 := Sep.row (h1.keep hb2) ho3 hb3
    refine ⟨_, _, _, rfl, c2 w3 s3 a.b (((h3.front 3 rfl).front 3 rfl).front 3 rfl) (hB2.next hb3 h.le) (by omega)⟩
  · exact c2 w2 s2 (padI a.b) (((h2.front 3 rfl).front 3 rfl).front 3 rfl) hB2 (by rw [padI_len]; omega)

theorem same_spec {B : Nat} {w : World} {d r : Addr} {st : DS} {R : List Asn} (h : Sep B w (diskA d st :: refA r st :: R)) (hpl : st.pend.length ≤ 1000000) (hlen : st.safe.length ≤ 1000) :
    CallsV Try.prog n_trystlaw13_same #[.pointer (some d), .pointer (some r)] w fun v w' => v = .bool true ∧ Sep B w' (diskA d st :: refA r st :: R) ∧ Below B w w' := by
  refine trystlaw13_same.lift ?_
  unfold trystlaw13_same.main trystlaw13_same.l2
  refine ⟨fun t w' => ∃ k : Nat, t = k ∧ k ≤ st.safe.length ∧ Sep B w' (diskA d st :: refA r st :: R) ∧ Below B w w', fun t _ => st.safe.length - t.toNat, ⟨0, rfl, Nat.zero_le _, h, Below.refl _ _⟩, ?_⟩
  rintro _ w1 ⟨k, rfl, hk, h1, hb⟩
  unfold trystlaw13_same.b2
  obtain ⟨x, hx, hS⟩ := h1.swap.unfold
  have hsl := hx.lenS
  have hlS := (hS.rowLen 1 rfl).1
  refine ⟨r, rfl, _, _, _, hS.cell0 0 rfl rfl, cond_d (fun hlt => ?_) fun hge => ?_⟩
  · refine (read_spec h1 (k : Int)).mono ?_
    rintro _ w2 ⟨s2, rfl, hI2, h2, hb2⟩
    refine ⟨_, _, _, _, rfl, ?_⟩
    refine (rread_spec (h2.front 2 rfl) hpl (k : Int)).mono ?_
    rintro _ _ ⟨⟨s3, rfl, hI3⟩, rfl⟩
    refine ⟨_, _, _, _, rfl, ?_⟩
    refine (bytes_spec hI2 hI3).mono ?_
    rintro _ w4 ⟨rfl, hs4⟩
    refine ⟨_, rfl, cond_f' (by simp) (cond_n (fun hh => absurd rfl hh) fun _ => ?_)⟩
    rw [inc (by omega)]
    exact ⟨⟨rfl, rfl, k + 1, rfl, by omega, h2.drop.same hs4, (hb.next hb2 h.le).trans (hs4.below _)⟩, by (try dsimp only); omega⟩
  · unfold trystlaw13_same.c1
    refine ⟨fun u => u = w1.drew, rfl, r, rfl, _, fun u hu => by rw [hu]; exact hS.cell 0 rfl 3 rfl, ?_⟩
    refine (off_spec h1.drew).mono ?_
    rintro _ _ ⟨rfl, rfl⟩
    refine ⟨_, rfl, rfl, cond_t (by simp) ⟨r, rfl, _, _, _, fun u hu => by rw [hu]; exact hS.cell0 0 rfl rfl, ?_⟩⟩
    refine (sectors_spec h1.drew).mono ?_
    rintro _ _ ⟨rfl, rfl⟩
    refine ⟨_, rfl, rfl, ?_⟩
    refine ⟨?_, h1.drew, hb.trans ((Same.drew w1).below B)⟩
    rw [hlS, hsl]; simp

theorem exact13_spec {w : World} {ls : Sl} {l : List Act} (n : Int) (hl : Acts w ls l) :
    CallsV Try.prog n_trystlaw13_DiskExact #[.int .i64 n, .slice ls.a ls.len ls.cap] w fun v w' => v = .bool true ∧ Below w.heap.size w w' := by
  refine trystlaw13_DiskExact.lift ?_
  unfold trystlaw13_DiskExact.main
  have hll := hl.len
  refine (heavy_spec hl).mono ?_
  rintro _ _ ⟨⟨hb, rfl, hlight⟩, rfl⟩
  refine ⟨_, rfl, cond_c (fun _ => ⟨rfl, Below.refl _ _⟩) fun hbf => ?_⟩
  obtain ⟨hl400, hl100⟩ := hlight hbf
  by_cases hn : n < 1 ∨ 512 < n
  · refine (new_bad n w hn).mono ?_
    rintro _ _ ⟨rfl, rfl⟩
    refine ⟨_, _, rfl, ?_⟩
    refine (rnew_bad n w hn).mono ?_
    rintro _ _ ⟨rfl, rfl⟩
    refine ⟨_, rfl, cond_t rfl (cond_t rfl (cond_t rfl ?_))⟩
    refine (wakes13_spec w).mono ?_
    rintro _ w1 ⟨rfl, hb1⟩
    exact ⟨_, rfl, rfl, hb1⟩
  obtain ⟨m, rfl⟩ : ∃ m : Nat, n = m := ⟨n.toNat, by omega⟩
  refine (new_spec (Sep.nil (Nat.le_refl w.heap.size)) m (by omega) (by omega)).mono ?_
  rintro _ w1 ⟨d, rfl, h1, hb1⟩
  refine ⟨_, _, rfl, ?_⟩
  refine (rnew_spec h1 m (by omega) (by omega)).mono ?_
  rintro _ w2 ⟨r, rfl, h2, hb2⟩
  refine ⟨_, rfl, cond_f' rfl (cond_n (fun hh => absurd rfl hh) fun _ => cond_f' rfl ?_)⟩
  unfold trystlaw13_DiskExact.c4 trystlaw13_DiskExact.l2
  refine ⟨fun t w' => ∃ k : Nat, t = k ∧ k ≤ l.length ∧ k ≤ 100 ∧ ∃ st, Wf k st ∧ st.safe.length = m ∧ Sep w.heap.size w' [diskA d st, refA r st] ∧ Below w.heap.size w w', fun t _ => l.length - t.toNat,
    ⟨0, rfl, Nat.zero_le _, by omega, newD m, Wf.new m, List.length_replicate, h2.swap, hb1.trans hb2⟩, ?_⟩
  rintro _ w3 ⟨k, rfl, hk, hk2, st, hwf, hlen, h3, hb3⟩
  have hpl := hwf.pend
  unfold trystlaw13_DiskExact.b2
  have fin : trystlaw13_DiskExact.c1 (fun v w' => v = .bool true ∧ Below w.heap.size w w') (some d) (some r) w3 := by
    unfold trystlaw13_DiskExact.c1
    refine (same_spec h3 (by omega) (by omega)).mono ?_
    rintro _ w4 ⟨rfl, h4, hb4⟩
    refine ⟨_, rfl, cond_t rfl ?_⟩
    refine (wakes13_spec w4).mono ?_
    rintro _ w5 ⟨rfl, hb5⟩
    exact ⟨_, rfl, rfl, (hb3.trans hb4).next hb5 (Nat.le_refl _)⟩
  refine cond_d (fun hlt => cond_d (fun h100 => ?_) fun _ => fin) fun _ => fin
  unfold trystlaw13_DiskExact.c3
  obtain ⟨p, a, sb, sk, hp, ha, c0, c1, c2, c3, c4, c5, hIb, hBk, hai⟩ := Acts.get hl (i := (k : Int)) (by omega) hlt
  obtain ⟨hab, hak⟩ := hl100 k a (by omega) (by rw [Int.toNat_natCast] at ha; exact ha)
  refine ⟨by omega, hlt, p, hp, _, hb3.here c0, _, hb3.here c1, _, _, _, hb3.here c2, _, hb3.here c3, _, _, _, hb3.here c4, _, hb3.here c5, ?_⟩
  refine (step13_spec h3 hwf (by omega) hai hab hak (fun w' hb => hIb.keep (hb3.trans hb)) fun w' hb => .of_els (hBk.keep BoolC.stab (hb3.trans hb))).mono ?_
  rintro _ w4 ⟨rfl, st', hwf', hlen', h4, hb4⟩
  refine ⟨_, rfl, cond_f' rfl (cond_d (fun _ => ?_) fun _ => ?_)⟩
  · refine (same_spec h4 (by have := hwf'.pend; omega) (by omega)).mono ?_
    rintro _ w5 ⟨rfl, h5, hb5⟩
    refine ⟨_, rfl, cond_f' rfl ?_⟩
    rw [inc (by omega)]
    exact ⟨⟨rfl, rfl, rfl, rfl, k + 1, rfl, by omega, by omega, st', hwf', by omega, h5, (hb3.trans hb4).trans hb5⟩, by (try dsimp only); omega⟩
  · rw [inc (by omega)]
    exact ⟨⟨rfl, rfl, rfl, rfl, k + 1, rfl, by omega, by omega, st', hwf', by omega, h4, hb3.trans hb4⟩, by (try dsimp only); omega⟩

end Go.Proofs.Ytnnpkjhpeefnbaa
