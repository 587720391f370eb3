/-
  Disk: a crash, and the small operations: contracts.
-/
import Derived.Test.YtnnpkjhpeefnbaaDiA
set_option linter.unusedVariables false
set_option linter.unusedSimpArgs false
namespace Go.Proofs.Ytnnpkjhpeefnbaa
open Go.Lf Go.RowKit

theorem _root_.Go.Lf.Sep.swapIn {B : Nat} {w : World} {l : List Asn} {A : Asn} (k : Nat) (hk : k < l.length) (h : Sep B w (A :: l)) : Sep B w (l.set k A) := by
  have h1 : Sep B w (A :: l[k] :: l.eraseIdx k) := h.perm ((perm_front (List.getElem?_eq_getElem hk)).cons A)
  exact (h1.swap.drop).back k hk
theorem _root_.Go.Lf.Sep.triv {B : Nat} {w : World} {l : List Asn} {A : Asn} (k : Nat) (hk : k < l.length) (h : Sep B w l) (hA : ∀ F, A.on F w) : Sep B w (l.set k A) := by
  refine Sep.swapIn k hk ?_
  exact h.new (F := fun _ => False) (hA _) (fun _ hh => hh.elim) (Below.refl _ _)

structure BoolsR (w : World) (s : Sl) (bs : List Bool) : Prop where
  len : s.len = bs.length
  cell : ∀ (i : Nat) (b : Bool), bs[i]? = some b → ∃ p, s.a = some p ∧ w.cell? (p.add i) = some (.bool b)
theorem BoolsR.get {w : World} {s : Sl} {bs : List Bool} (h : BoolsR w s bs) {i : Nat} (hi : (i : Int) < (s.len : Int)) : ∃ p, s.a = some p ∧ w.cell? (p.add i) = some (.bool (bs[i]?.getD false)) := by
  have hlt : i < bs.length := by have := h.len; omega
  obtain ⟨p, hp, hc⟩ := h.cell i _ (List.getElem?_eq_getElem hlt)
  exact ⟨p, hp, by rw [hc, List.getElem?_eq_getElem hlt]; rfl⟩
theorem BoolsR.nil {w : World} : BoolsR w ⟨none, 0, 0⟩ [] := ⟨rfl, fun i b h => by simp at h⟩

theorem inc {k : Nat} (h : k < 9223372036854775807) : IntKind.i64.wrap ((k : Int) + 1) = ((k + 1 : Nat) : Int) := by rw [w64 (by omega)]; omega

theorem drop_at {α : Type} {l : List α} {k : Nat} {x : α} (h : l[k]? = some x) : l.drop k = x :: l.drop (k + 1) := by
  obtain ⟨hlt, he⟩ := List.getElem?_eq_some_iff.1 h
  rw [List.drop_eq_getElem_cons hlt, he]

theorem cloneS_spec {B : Nat} {w : World} {l : List Asn} (k : Nat) {s : Sl} {xs : List Sc} (hk : l[k]? = some (rowA 82 2 s xs.length (flat Sc.cells xs))) (h : Sep B w l) (hp : xs ≠ []) (hx : xs.length ≤ 1000000) :
    CallsV Try.prog n_slices_Clone_sector #[.slice s.a s.len s.cap] w fun v w' => ∃ s' : Sl, v = .slice s'.a s'.len s'.cap ∧ Sep B w' (rowA 82 2 s' xs.length (flat Sc.cells xs) :: l) ∧ Below w.heap.size w w' := by
  refine slices_Clone_sector.lift ?_
  unfold slices_Clone_sector.main
  have hl := flat_length Sc.w xs
  have hpos : 0 < xs.length := by cases xs with
    | nil => exact absurd rfl hp
    | cons y r => simp
  obtain ⟨q, hq, hc⟩ := h.rowCell k hk (j := 0) (by omega)
  refine cond_f' (by rw [hq]; rfl) ?_
  obtain ⟨i, hi, hz, hsz, hby⟩ := t82
  have hlen := (h.rowLen k hk).1
  obtain ⟨s', w', hr, _, ho, hb⟩ := clone_go (ty := 76) (c := s.cap) Try.underlying76 hi hz hsz hby rfl (by omega) hl hc (by
    intro u hu
    simp only [flat, List.mem_flatMap, Sc.cells, List.mem_cons, List.not_mem_nil, or_false] at hu
    obtain ⟨y, _, rfl | rfl⟩ := hu <;> rfl) (by unfold maxLen; omega) (by omega)
  rw [hq, hlen]
  exact ⟨_, _, _, _, hr, s', rfl, h.row ho hb, hb⟩

theorem crash_core {B : Nat} {w : World} {d : Addr} {x : DC} {st : DS} {R : List Asn} (hx : DOk x st) (h : Sep B w (dl d x st.off st.trip ++ R)) {keep : Sl} {kl : List Bool} (torn : Int) (hpl : st.pend.length ≤ 1000000000) (hrng : st.off = true → Rng st)
    (hk : ∀ w' sf, Below B w w' → Sep B w' (dl d { x with safe := sf } st.off st.trip ++ R) → BoolsR w' keep kl) :
    CallsV Try.prog n_disk_Disk_Crash #[.pointer (some d), .slice keep.a keep.len keep.cap, .int .i64 torn] w fun v w' => v = .tuple #[] ∧ Sep B w' (diskA d (crashD st kl torn) :: R) ∧ Below B w w' := by
  refine disk_Disk_Crash.lift ?_
  unfold disk_Disk_Crash.main
  have hlP := (h.rowLen 3 rfl).1
  have hpl' : x.pend.length ≤ 1000000000 := by rw [hx.pend, List.length_map] at hpl; exact hpl
  refine ⟨d, rfl, st.off, h.cell 0 rfl 3 rfl, cond_c (fun ho => ⟨rfl, ?_, Below.refl _ _⟩) fun ho => ?_⟩
  · rw [crashD, if_pos ho]
    exact Sep.fold x ⟨hx, hrng ho⟩ h
  refine ⟨d, rfl, _, _, _, h.cell 0 rfl 2 rfl, ?_⟩
  unfold disk_Disk_Crash.l2
  refine ⟨fun t w' => ∃ k : Nat, t = k ∧ k ≤ x.pend.length ∧ ∃ cur : List Sc, cur.length = x.safe.length ∧ (∀ y ∈ cur, ScOk x.L y) ∧ crashSafe kl torn 0 st.pend st.safe = crashSafe kl torn k (st.pend.drop k) (cur.map Sc.val) ∧
    Sep B w' (dl d { x with safe := cur } st.off st.trip ++ R) ∧ Below B w w', fun t _ => x.pend.length - t.toNat, ⟨0, rfl, Nat.zero_le _, x.safe, rfl, hx.inS, by rw [hx.safe]; rfl, h, Below.refl _ _⟩, ?_⟩
  rintro _ w1 ⟨k, rfl, hkl, cur, hcl, hcok, hcs, hS, hb⟩
  unfold disk_Disk_Crash.b2
  refine cond_d (fun hlt => ?_) fun hge => ?_
  · have hkP : k < x.pend.length := by omega
    obtain ⟨y, hy⟩ : ∃ y, x.pend[k]? = some y := ⟨_, List.getElem?_eq_getElem hkP⟩
    obtain ⟨hyL, hy64, hyi⟩ := hx.inP y (List.mem_of_getElem? hy)
    have hyP : st.pend[k]? = some y.val := by rw [hx.pend, List.getElem?_map, hy]; rfl
    obtain ⟨q, hq, hc⟩ := hS.rowGet 3 (by omega) Wt.w rfl hy
    have hc0 := hc 0 _ rfl
    rw [add_zero] at hc0
    have hlS := (hS.rowLen 1 rfl).1
    have hlS' : x.sS.len = x.safe.length := by rw [← hcl]; exact hlS
    refine ⟨by omega, hlt, q, hq, _, by rw [Int.toNat_natCast]; exact hc0, _, _, _, by rw [Int.toNat_natCast]; exact hc 1 _ rfl, ?_⟩
    refine ⟨fun j hj => wr_new _ _ _ (by simpa using hj), ?_⟩
    intro w8
    have e8 : w8 = w1.alloc (.cells #[.int .i64 (y.i : Int), .slice y.s.a y.s.len y.s.cap] 86) := box_set2
    clear_value w8
    have hb8 : Below w1.heap.size w1 w8 := by rw [e8]; exact below_alloc _ _
    have hS8 := hS.keep hb8
    have hB8 : Below B w w8 := hb.next hb8 (by have := h.le; exact this)
    have n0 : w8.cell? (newA w1) = some (.int .i64 (y.i : Int)) := by rw [e8]; exact cell_new0 _ _ _
    have n1 : w8.cell? ((newA w1).add 1) = some (.slice y.s.a y.s.len y.s.cap) := by rw [e8]; exact cell_new _ _ _ 1
    have hyc : y.i < cur.length := by omega
    -- a sector is written, and on
    have step : ∀ (z : Sc) (v0 v1 : Value), z.cells = [v0, v1] → ScOk x.L z →
        (if (k : Int) = torn then (cur.map Sc.val).set y.i none else if kl[k]?.getD false = true then (cur.map Sc.val).set y.i (some y.xs) else cur.map Sc.val) = (cur.map Sc.val).set y.i z.val → ∀ qS : Addr, x.sS.a = some qS →
        (fun d0' keep1' torn2' t15' t16' t17' w' => (d0' = some d ∧ keep1' = keep ∧ torn2' = torn ∧ t15' = (⟨x.sP.a, x.sP.len, x.sP.cap⟩ : Sl) ∧ t16' = ((x.sP.len : Nat) : Int) ∧ ∃ k : Nat, t17' = (k : Int) ∧ k ≤ x.pend.length ∧ ∃ cur : List Sc, cur.length = x.safe.length ∧ (∀ y ∈ cur, ScOk x.L y) ∧ crashSafe kl torn 0 st.pend st.safe = crashSafe kl torn k (st.pend.drop k) (cur.map Sc.val) ∧
          Sep B w' (dl d { x with safe := cur } st.off st.trip ++ R) ∧ Below B w w') ∧ x.pend.length - t17'.toNat < x.pend.length - (k : Int).toNat) (some d) keep torn ⟨x.sP.a, x.sP.len, x.sP.cap⟩ ((x.sP.len : Nat) : Int) (IntKind.i64.wrap ((k : Int) + 1)) (setCells (qS.add (y.i * 2)) [v0, v1] 0 w8.drew) := by
      intro z v0 v1 hz hzok hst qS hqS
      rw [inc (by omega)]
      obtain ⟨_, hSn, hbn⟩ := hS8.drew.rowEl 1 Sc.w (xs := cur) rfl hqS hyc z
      rw [hz] at hSn hbn
      refine ⟨⟨rfl, rfl, rfl, rfl, rfl, k + 1, rfl, hkP, cur.set y.i z, by rw [List.length_set, hcl], ?_, ?_, ?_, ?_⟩, by (try dsimp only); omega⟩
      · intro u hu
        rcases List.mem_or_eq_of_mem_set hu with hu | rfl
        · exact hcok u hu
        · exact hzok
      · rw [hcs, drop_at hyP]
        show crashSafe kl torn (k + 1) _ _ = _
        rw [List.map_set]
        exact congrArg (crashSafe kl torn (k + 1) (st.pend.drop (k + 1))) hst
      · unfold dl at hSn ⊢
        simp only [List.cons_append, List.set_cons_succ, List.set_cons_zero, List.length_set] at hSn ⊢
        exact hSn
      · exact (hB8.trans ((Same.drew w8).below B)).trans hbn
    have idle : (¬ (k : Int) = torn) → kl[k]?.getD false = false →
        (fun d0' keep1' torn2' t15' t16' t17' w' => (d0' = some d ∧ keep1' = keep ∧ torn2' = torn ∧ t15' = (⟨x.sP.a, x.sP.len, x.sP.cap⟩ : Sl) ∧ t16' = ((x.sP.len : Nat) : Int) ∧ ∃ k : Nat, t17' = (k : Int) ∧ k ≤ x.pend.length ∧ ∃ cur : List Sc, cur.length = x.safe.length ∧ (∀ y ∈ cur, ScOk x.L y) ∧ crashSafe kl torn 0 st.pend st.safe = crashSafe kl torn k (st.pend.drop k) (cur.map Sc.val) ∧
          Sep B w' (dl d { x with safe := cur } st.off st.trip ++ R) ∧ Below B w w') ∧ x.pend.length - t17'.toNat < x.pend.length - (k : Int).toNat) (some d) keep torn ⟨x.sP.a, x.sP.len, x.sP.cap⟩ ((x.sP.len : Nat) : Int) (IntKind.i64.wrap ((k : Int) + 1)) w8 := by
      intro h1 h2
      rw [inc (by omega)]
      refine ⟨⟨rfl, rfl, rfl, rfl, rfl, k + 1, rfl, hkP, cur, hcl, hcok, ?_, hS8, hB8⟩, by (try dsimp only); omega⟩
      rw [hcs, drop_at hyP]
      show crashSafe kl torn (k + 1) _ (if (k : Int) = torn then _ else if kl[k]?.getD false = true then _ else _) = _
      rw [if_neg h1, if_neg (by rw [h2]; simp)]
    obtain ⟨qS, hqS, _⟩ := hS.rowCell 1 rfl (j := 0) (by rw [flat_length Sc.w]; have := hx.pos; show 0 < cur.length * 2; omega)
    have hqS' : x.sS.a = some qS := hqS
    have hd8 := hS8.cell0 0 rfl rfl
    refine cond_e (fun htorn => ?_) fun hntorn => ?_
    · refine ⟨fun u => u.cell? d = some (.slice x.sS.a x.sS.len x.sS.cap) ∧ u.cell? (newA w1) = some (.int .i64 (y.i : Int)), ⟨hd8, n0⟩, d, rfl, _, _, _, fun u hu => hu.1, _, fun u hu => hu.2, by omega, by omega, qS, hqS', ?_, ?_⟩
      · rw [Int.toNat_natCast]
        exact (hS8.drew.rowEl 1 Sc.w (xs := cur) rfl hqS' hyc ⟨⟨none, 0, 0⟩, [], true⟩).1
      · rw [Int.toNat_natCast]
        exact step ⟨⟨none, 0, 0⟩, [], true⟩ _ _ rfl (.inl rfl) (by rw [if_pos htorn]; rfl) qS hqS'
    · have hBk := hk w8 cur hB8 hS8
      refine cond_d (fun hkk => ?_) fun hkk => idle hntorn ?_
      · obtain ⟨p, hp, hcp⟩ := hBk.get hkk
        refine ⟨by omega, hkk, p, hp, _, by rw [Int.toNat_natCast]; exact hcp, cond_c (fun hb => ?_) fun hb => idle hntorn hb⟩
        unfold disk_Disk_Crash.c3
        refine ⟨fun u => u.cell? d = some (.slice x.sS.a x.sS.len x.sS.cap) ∧ u.cell? (newA w1) = some (.int .i64 (y.i : Int)) ∧ u.cell? ((newA w1).add 1) = some (.slice y.s.a y.s.len y.s.cap), ⟨hd8, n0, n1⟩, d, rfl, _, _, _, fun u hu => hu.1, _, fun u hu => hu.2.1, _, _, _, fun u hu => hu.2.2, by omega, by omega, qS, hqS', ?_, ?_⟩
        · rw [Int.toNat_natCast]
          exact (hS8.drew.rowEl 1 Sc.w (xs := cur) rfl hqS' hyc ⟨⟨none, 0, 0⟩, [], true⟩).1
        · rw [Int.toNat_natCast]
          exact step ⟨y.s, y.xs, false⟩ _ _ rfl (.inr ⟨rfl, hyL, hy64⟩) (by rw [if_neg hntorn, if_pos hb]; rfl) qS hqS'
      · have := hBk.len
        rw [List.getElem?_eq_none (by omega)]; rfl
  · have hke : k = x.pend.length := by omega
    have hcs' : crashSafe kl torn 0 st.pend st.safe = cur.map Sc.val := by
      rw [hcs, List.drop_eq_nil_of_le (by rw [hx.pend, List.length_map]; omega)]; rfl
    unfold disk_Disk_Crash.c1
    refine ⟨d, rfl, _, _, _, hS.cell0 0 rfl rfl, ?_⟩
    have hpos := hx.pos
    have hfew := hx.few
    refine (cloneS_spec 1 (xs := cur) rfl hS (fun hn => by rw [hn] at hcl; simp at hcl; omega) (by omega)).mono ?_
    rintro _ w2 ⟨s', rfl, hS2, hb2⟩
    refine ⟨_, _, _, rfl, d, rfl, ?_⟩
    have hS3 := Sep.swapIn (l := dl d { x with safe := cur } st.off st.trip ++ R) 2 (by simp [dl]) hS2
    have hB2 := hb.next hb2 h.le
    refine ⟨hS3.wr 0 rfl (j := 1) (by simp), ?_⟩
    obtain ⟨hS4, hb4⟩ := hS3.set 0 rfl (j := 1) (by simp) (.slice s'.a s'.len s'.cap)
    refine ⟨d, rfl, hS4.wr 0 rfl (j := 2) (by simp), ?_⟩
    obtain ⟨hS5, hb5⟩ := hS4.set 0 rfl (j := 2) (by simp) (.slice none 0 0)
    refine ⟨d, rfl, hS5.wr 0 rfl (j := 4) (by simp), ?_⟩
    obtain ⟨hS6, hb6⟩ := hS5.set 0 rfl (j := 4) (by simp) (.pointer none)
    refine ⟨d, rfl, hS6.wr 0 rfl (j := 3) (by simp), ?_⟩
    obtain ⟨hS7, hb7⟩ := hS6.set 0 rfl (j := 3) (by simp) (.bool true)
    refine ⟨rfl, ?_, (((hB2.trans hb4).trans hb5).trans hb6).trans hb7⟩
    rw [crashD, if_neg (by rw [ho]; simp)]
    refine Sep.fold ⟨x.sS, s', ⟨none, 0, 0⟩, cur, cur, [], none, ⟨none, 0, 0⟩, x.L⟩ ⟨⟨hcs', rfl, hcs', by simp only; omega, by simp only; omega, hcok, hcok, (fun y hy => by cases hy), (fun _ => rfl), (fun t ht => by cases ht)⟩, fun t ht => by cases ht⟩ ?_
    have hS8 := ((hS7.triv (A := rowA 86 2 ⟨none, 0, 0⟩ 0 []) 3 (by simp [dl]) fun F => ⟨World.ownsRow_nil _ _ _ _, fun q hq => by cases hq⟩).triv (A := noneA) 4 (by simp [dl]) fun F => trivial).triv (A := rowA 4 1 ⟨none, 0, 0⟩ 0 []) 5 (by simp [dl]) fun F => ⟨World.ownsRow_nil _ _ _ _, fun q hq => by cases hq⟩
    exact hS8

end Go.Proofs.Ytnnpkjhpeefnbaa
