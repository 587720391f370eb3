/-
  Disk: syncs, and new disks: contracts.
-/
import Derived.Test.YtnnpkjhpeefnbaaDiC
set_option linter.unusedVariables false
set_option linter.unusedSimpArgs false
namespace Go.Proofs.Ytnnpkjhpeefnbaa
open Go.Lf Go.RowKit

theorem sync_spec {B : Nat} {w : World} {d : Addr} {st : DS} {R : List Asn} (h : Sep B w (diskA d st :: R)) (wf : WfD st) :
    CallsV Try.prog n_disk_Disk_Sync #[.pointer (some d)] w fun v w' => v = .int .i64 (syncD st).1 ∧ Sep B w' (diskA d (syncD st).2 :: R) ∧ Below B w w' := by
  obtain ⟨x, ⟨hx, hr⟩, hS⟩ := h.unfold
  refine disk_Disk_Sync.lift ?_
  unfold disk_Disk_Sync.main
  refine ⟨d, rfl, st.off, hS.cell 0 rfl 3 rfl, cond_c (fun ho => ⟨by rw [syncD, if_pos ho], by rw [syncD, if_pos ho]; exact h, Below.refl _ _⟩) fun ho => ?_⟩
  refine (trips_core hx hr ho hS (by have := wf.pend; omega) wf.keep).mono ?_
  rintro _ w0 ⟨rfl, h0, hb0⟩
  refine ⟨_, rfl, cond_c (fun ht => ⟨by rw [syncD, if_neg (by rw [ho]; simp), if_pos ht], by rw [syncD, if_neg (by rw [ho]; simp), if_pos ht]; exact h0, hb0⟩) fun ht => ?_⟩
  rw [syncD, if_neg (by rw [ho]; simp), if_neg (by rw [ht]; simp)]
  have hp0 : (tripsD st).2.pend = st.pend := by
    unfold tripsD at ht ⊢
    cases hh : st.trip with
    | none => rfl
    | some t =>
      obtain ⟨n, keep, torn⟩ := t
      rw [hh] at ht
      dsimp only at ht ⊢
      split
      · rfl
      · rename_i hc; rw [if_neg hc] at ht; cases ht
  have hpl := wf.pend
  rw [← hp0] at hpl
  have hle := h.le
  clear hp0 hx hr hS h ho ht x
  generalize (tripsD st).2 = st at *
  obtain ⟨x, ⟨hx, hr⟩, hS⟩ := h0.unfold
  unfold disk_Disk_Sync.c3
  have hpl' : x.pend.length ≤ 1000000 := by rw [hx.pend, List.length_map] at hpl; exact hpl
  have hlP := (hS.rowLen 3 rfl).1
  refine ⟨d, rfl, _, _, _, hS.cell 0 rfl 2 rfl, ?_⟩
  unfold disk_Disk_Sync.l2
  refine ⟨fun t w' => ∃ k : Nat, t = k ∧ k ≤ x.pend.length ∧ ∃ cur : List Sc, cur.length = x.safe.length ∧ (∀ y ∈ cur, ScOk x.L y) ∧ nowOf st.safe st.pend = nowOf (cur.map Sc.val) (st.pend.drop k) ∧
    Sep B w' (dl d { x with safe := cur } st.off st.trip ++ R) ∧ Below B w w', fun t _ => x.pend.length - t.toNat, ⟨0, rfl, Nat.zero_le _, x.safe, rfl, hx.inS, by rw [hx.safe]; rfl, hS, hb0⟩, ?_⟩
  rintro _ w1 ⟨k, rfl, hkl, cur, hcl, hcok, hcs, hS, hb⟩
  unfold disk_Disk_Sync.b2
  refine cond_d (fun hlt => ?_) fun hge => ?_
  · have hkP : k < x.pend.length := by omega
    obtain ⟨y, hy⟩ : ∃ y, x.pend[k]? = some y := ⟨_, List.getElem?_eq_getElem hkP⟩
    obtain ⟨hyL, hy64, hyi⟩ := hx.inP y (List.mem_of_getElem? hy)
    have hyP : st.pend[k]? = some y.val := by rw [hx.pend, List.getElem?_map, hy]; rfl
    obtain ⟨q, hq, hc⟩ := hS.rowGet 3 (by omega) Wt.w rfl hy
    have hc0 := hc 0 _ rfl
    rw [add_zero] at hc0
    have hlS := (hS.rowLen 1 rfl).1
    have hlS' : x.sS.len = x.safe.length := by rw [← hcl]; exact hlS
    refine ⟨by omega, hlt, q, hq, _, by rw [Int.toNat_natCast]; exact hc0, _, _, _, by rw [Int.toNat_natCast]; exact hc 1 _ rfl, ?_⟩
    refine ⟨fun j hj => wr_new _ _ _ (by simpa using hj), ?_⟩
    intro w8
    have e8 : w8 = w1.alloc (.cells #[.int .i64 (y.i : Int), .slice y.s.a y.s.len y.s.cap] 86) := box_set2
    clear_value w8
    have hb8 : Below w1.heap.size w1 w8 := by rw [e8]; exact below_alloc _ _
    have hS8 := hS.keep hb8
    have hB8 : Below B w w8 := hb.next hb8 hle
    have n0 : w8.cell? (newA w1) = some (.int .i64 (y.i : Int)) := by rw [e8]; exact cell_new0 _ _ _
    have n1 : w8.cell? ((newA w1).add 1) = some (.slice y.s.a y.s.len y.s.cap) := by rw [e8]; exact cell_new _ _ _ 1
    have hyc : y.i < cur.length := by omega
    obtain ⟨qS, hqS, _⟩ := hS.rowCell 1 rfl (j := 0) (by rw [flat_length Sc.w]; have := hx.pos; show 0 < cur.length * 2; omega)
    have hqS' : x.sS.a = some qS := hqS
    obtain ⟨hw, hSn, hbn⟩ := hS8.drew.rowEl 1 Sc.w (xs := cur) rfl hqS' hyc ⟨y.s, y.xs, false⟩
    refine ⟨fun u => u.cell? d = some (.slice x.sS.a x.sS.len x.sS.cap) ∧ u.cell? (newA w1) = some (.int .i64 (y.i : Int)) ∧ u.cell? ((newA w1).add 1) = some (.slice y.s.a y.s.len y.s.cap), ⟨hS8.cell0 0 rfl rfl, n0, n1⟩, d, rfl, _, _, _, fun u hu => hu.1, _, fun u hu => hu.2.1, _, _, _, fun u hu => hu.2.2, by omega, by omega, qS, hqS', by rw [Int.toNat_natCast]; exact hw, ?_⟩
    rw [Int.toNat_natCast, inc (by omega)]
    refine ⟨⟨rfl, rfl, rfl, k + 1, rfl, hkP, cur.set y.i ⟨y.s, y.xs, false⟩, by rw [List.length_set, hcl], ?_, ?_, ?_, (hB8.trans ((Same.drew w8).below B)).trans hbn⟩, by (try dsimp only); omega⟩
    · intro u hu
      rcases List.mem_or_eq_of_mem_set hu with hu | rfl
      · exact hcok u hu
      · exact .inr ⟨rfl, hyL, hy64⟩
    · rw [hcs, drop_at hyP, List.map_set]; rfl
    · unfold dl at hSn ⊢
      simp only [List.cons_append, List.set_cons_succ, List.set_cons_zero, List.length_set] at hSn ⊢
      exact hSn
  · have hke : k = x.pend.length := by omega
    have hcs' : nowOf st.safe st.pend = cur.map Sc.val := by
      rw [hcs, List.drop_eq_nil_of_le (by rw [hx.pend, List.length_map]; omega)]; rfl
    unfold disk_Disk_Sync.c1
    obtain ⟨h2, hb2⟩ := hS.set 0 rfl (j := 2) (by simp) (.slice none 0 0)
    have h3 := h2.triv (A := rowA 86 2 ⟨none, 0, 0⟩ 0 []) 3 (by simp [dl]) fun F => ⟨World.ownsRow_nil _ _ _ _, fun q hq => by cases hq⟩
    refine ⟨d, rfl, hS.wr 0 rfl (j := 2) (by simp), rfl, ?_, hb.trans hb2⟩
    exact Sep.fold { x with safe := cur, pend := [], sP := ⟨none, 0, 0⟩ } ⟨⟨hcs', rfl, hx.now, by have := hx.pos; simp only; omega, by have := hx.few; simp only; omega, hcok, hx.inN, (fun y hy => by cases hy), hx.tp0, hx.tp1⟩, hr⟩ h3

def newD (n : Nat) : DS := ⟨List.replicate n (some (List.replicate 64 0)), [], false, none⟩

theorem new_bad (n : Int) (w : World) (hn : n < 1 ∨ 512 < n) : CallsV Try.prog n_disk_New #[.int .i64 n] w fun v w' => v = .tuple #[.pointer none, .int .i64 1] ∧ w = w' := by
  refine disk_New.lift ?_
  unfold disk_New.main
  refine cond_d (fun _ => ⟨rfl, rfl⟩) fun h1 => cond_d (fun _ => ⟨rfl, rfl⟩) fun h2 => ?_
  omega

theorem new_spec {B : Nat} {w : World} {R : List Asn} (h : Sep B w R) (n : Nat) (h1 : 1 ≤ n) (h512 : n ≤ 512) : CallsV Try.prog n_disk_New #[.int .i64 (n : Int)] w fun v w' => ∃ d : Addr, v = .tuple #[.pointer (some d), .int .i64 0] ∧ Sep B w' (diskA d (newD n) :: R) ∧ Below B w w' := by
  refine disk_New.lift ?_
  unfold disk_New.main
  refine cond_d (fun _ => by omega) fun _ => cond_d (fun _ => by omega) fun _ => ?_
  unfold disk_New.c3
  intro w7
  obtain ⟨hA, hb7⟩ := Sep.box h [.slice none 0 0, .slice none 0 0, .slice none 0 0, .bool false, .pointer none] 80
  have hd : newA w = newA w := rfl
  generalize hdd : newA w = d at *
  clear hd
  have h7 : Sep B w7 (dl d ⟨⟨none, 0, 0⟩, ⟨none, 0, 0⟩, ⟨none, 0, 0⟩, [], [], [], none, ⟨none, 0, 0⟩, []⟩ false none ++ R) := by
    have hz : ∀ e s F (u : World), (rowA e s ⟨none, 0, 0⟩ 0 []).on F u := fun e s F u => ⟨World.ownsRow_nil _ _ _ _, fun q hq => by cases hq⟩
    have hnew : ∀ {A : Asn} {l : List Asn}, (∀ F (u : World), A.on F u) → Sep B w7 l → Sep B w7 (A :: l) := fun hA hl => hl.new (F := fun _ => False) (hA _ _) (fun _ hh => hh.elim) (Below.refl _ _)
    have h5 : Sep B w7 (boxA d [.slice none 0 0, .slice none 0 0, .slice none 0 0, .bool false, .pointer none] :: rowA 82 2 ⟨none, 0, 0⟩ 0 [] :: rowA 82 2 ⟨none, 0, 0⟩ 0 [] :: rowA 86 2 ⟨none, 0, 0⟩ 0 [] :: noneA :: rowA 4 1 ⟨none, 0, 0⟩ 0 [] :: intsAll .u8 [] :: R) := by
      have g0 := (hA.intsNil .u8).swap
      have g1 := (hnew (hz 4 1) g0).swap
      have g2 := (hnew (A := noneA) (fun _ _ => trivial) g1).swap
      have g3 := (hnew (hz 86 2) g2).swap
      have g4 := (hnew (hz 82 2) g3).swap
      exact (hnew (hz 82 2) g4).swap
    exact h5
  unfold disk_New.l2
  refine ⟨fun t w' => ∃ k : Nat, t = k ∧ k ≤ n ∧ ∃ (sS : Sl) (cur : List Sc) (L : List (Sl × List Int)), cur.length = k ∧ (∀ y ∈ cur, ScOk L y) ∧ cur.map Sc.val = List.replicate k (some (List.replicate 64 0)) ∧
    Sep B w' (dl d ⟨sS, ⟨none, 0, 0⟩, ⟨none, 0, 0⟩, cur, [], [], none, ⟨none, 0, 0⟩, L⟩ false none ++ R) ∧ Below B w w', fun t _ => n - t.toNat, ⟨0, rfl, Nat.zero_le _, ⟨none, 0, 0⟩, [], [], rfl, (fun y hy => by cases hy), rfl, h7, hb7⟩, ?_⟩
  rintro _ w1 ⟨k, rfl, hkl, sS, cur, L, hcl, hcok, hcv, hS, hb⟩
  unfold disk_New.b2
  refine cond_d (fun hlt => ?_) fun hge => ?_
  · have hk : k < n := by omega
    refine ⟨fun u => u.cell? d = some (.slice sS.a sS.len sS.cap), hS.cell0 0 rfl rfl, d, rfl, _, _, _, fun u hu => hu, by omega, by omega, by omega, by omega, ?_⟩
    have hmk := make_ints (w := w1.drew) (n := 64) (e := 5) (k := .u8) (by unfold maxLen; omega)
    intro w3
    have hb3 : Below w1.drew.heap.size w1.drew w3 := below_alloc _ _
    have hS3 := Sep.intsMore (l := dl d ⟨sS, ⟨none, 0, 0⟩, ⟨none, 0, 0⟩, cur, [], [], none, ⟨none, 0, 0⟩, L⟩ false none ++ R) 6 rfl hS.drew hmk (by simp) hb3
    have hB3 : Below B w w3 := (hb.trans ((Same.drew w1).below B)).next hb3 h.le
    refine ⟨hS3.cell0 0 rfl rfl, ?_⟩
    intro w4
    obtain ⟨hS4, hb4⟩ := Sep.box hS3 [.slice (some (newA w1.drew)) 64 64, .bool false] 82
    have hnew : ∀ (m : Nat) u, ([.slice (some (newA w1.drew)) 64 64, .bool false] : List Value)[m]? = some u → w4.cell? ((newA w3).add m) = some u := fun m u hu => hS4.cell 0 rfl m hu
    obtain ⟨ii, hi, hz, hsz, hby⟩ := t82
    obtain ⟨sS', w5, hrun, hlS', hS5, hb5⟩ := Sep.append (ty := 76) (c := 1) Try.underlying76 hi hz hsz hby rfl (by omega) 1 rfl hS4.drop (m := 1) (news := [.slice (some (newA w1.drew)) 64 64, .bool false]) rfl hnew (by intro u hu; simp at hu; rcases hu with rfl | rfl <;> rfl) (by unfold maxLen; simp only; omega) (by simp only; omega) (by omega)
    refine ⟨hS4.drop.cell0 0 rfl rfl, _, _, _, _, hrun, d, rfl, hS5.wr0 0 rfl (by simp), ?_⟩
    intro w6
    obtain ⟨hS6, hb6⟩ := hS5.set0 0 rfl (by simp) (.slice sS'.a sS'.len sS'.cap)
    rw [inc (by omega)]
    refine ⟨⟨rfl, rfl, k + 1, rfl, hk, sS', cur ++ [⟨⟨some (newA w1.drew), 64, 64⟩, List.replicate 64 0, false⟩], (⟨some (newA w1.drew), 64, 64⟩, List.replicate 64 0) :: L, by simp [hcl], ?_, ?_, ?_, ((hB3.trans hb4).trans hb5).trans hb6⟩, by (try dsimp only); omega⟩
    · intro y hy
      rcases List.mem_append.1 hy with hy | hy
      · exact (hcok y hy).imp id fun ⟨a, b, c⟩ => ⟨a, List.mem_cons_of_mem _ b, c⟩
      · simp at hy; subst hy
        exact .inr ⟨rfl, List.mem_cons_self, by simp⟩
    · rw [List.map_append, hcv]; exact (List.replicate_succ' (n := k) (a := some (List.replicate 64 (0 : Int)))).symm
    · have e1 : flat Sc.cells (cur ++ [⟨⟨some (newA w1.drew), 64, 64⟩, List.replicate 64 0, false⟩]) = flat Sc.cells cur ++ [.slice (some (newA w1.drew)) 64 64, .bool false] := by rw [flat_app, flat_one]; rfl
      unfold dl
      simp only [List.length_append, List.length_cons, List.length_nil, Nat.zero_add, e1]
      exact hS6
  · have hke : k = n := by omega
    subst hke
    unfold disk_New.c1
    refine ⟨d, rfl, _, _, _, hS.cell0 0 rfl rfl, ?_⟩
    refine (cloneS_spec 1 (xs := cur) rfl hS (fun hn => by rw [hn] at hcl; simp at hcl; omega) (by omega)).mono ?_
    rintro _ w2 ⟨s', rfl, hS2, hb2⟩
    refine ⟨_, _, _, rfl, d, rfl, ?_⟩
    have hS3 := Sep.swapIn (l := dl d ⟨sS, ⟨none, 0, 0⟩, ⟨none, 0, 0⟩, cur, [], [], none, ⟨none, 0, 0⟩, L⟩ false none ++ R) 2 (by simp [dl]) hS2
    refine ⟨hS3.wr 0 rfl (j := 1) (by simp), ?_⟩
    obtain ⟨hS4, hb4⟩ := hS3.set 0 rfl (j := 1) (by simp) (.slice s'.a s'.len s'.cap)
    refine ⟨d, rfl, ?_, (hb.next hb2 h.le).trans hb4⟩
    exact Sep.fold ⟨sS, s', ⟨none, 0, 0⟩, cur, cur, [], none, ⟨none, 0, 0⟩, L⟩ ⟨⟨hcv.symm, rfl, hcv.symm, by simp only; omega, by simp only; omega, hcok, hcok, (fun y hy => by cases hy), (fun _ => rfl), (fun t ht => by cases ht)⟩, fun t ht => by cases ht⟩ hS4

end Go.Proofs.Ytnnpkjhpeefnbaa
