/-
  Logs: Have, From; the page's judge of logs; sameness of logs, spoils.
-/
import Derived.Test.YtcegohgmagppbaaLgE
set_option linter.unusedVariables false
set_option linter.unusedVariables false
set_option linter.unusedSimpArgs false
namespace Go.Proofs.Ytcegohgmagppbaa
open Go.Lf Go.RowKit

theorem ok_pair : ∀ {a r : List Log} {g : Log} {l : Int}, logsOk l (a ++ g :: r) = true → ∀ x ∈ a, x.c < g.c
  | [], _, _, _, _, x, hx => by simp at hx
  | y :: a, r, g, l, h, x, hx => by
    have h' : (okLog l y && logsOk y.c (a ++ g :: r)) = true := h
    rw [Bool.and_eq_true] at h'
    rcases List.mem_cons.1 hx with rfl | hx
    · exact ok_lt h'.2 g (by simp)
    · exact ok_pair h'.2 x hx

theorem lkp_last {g : Log} (d : Int) : ∀ {a : List Log}, (∀ x ∈ a, x.c < g.c) → lkp d (a ++ [g]) = if d = g.c then g else lkp d a
  | [], _ => by
    show (if g.c < d then lkp d [] else if g.c = d then g else ⟨d, 0, []⟩) = _
    by_cases h : d = g.c
    · rw [if_pos h, if_neg (by omega), if_pos h.symm]
    · rw [if_neg h, if_neg (fun hh : g.c = d => h hh.symm)]
      split <;> rfl
  | x :: a, h => by
    have hx := h x (by simp)
    have ih := lkp_last d (g := g) (a := a) fun y hy => h y (List.mem_cons_of_mem _ hy)
    show (if x.c < d then lkp d (a ++ [g]) else if x.c = d then x else ⟨d, 0, []⟩) = _
    rw [ih]
    by_cases hd : d = g.c
    · rw [if_pos hd, if_pos hd, if_pos (by omega)]
    · rw [if_neg hd, if_neg hd]; rfl

theorem haves_length (gs : List Log) : (haves gs).length = 8 := by simp [haves]
theorem haves_get (gs : List Log) {i : Nat} (hi : i < 8) : (haves gs)[i]? = some (tot (lkp (i : Int) gs)) := by
  unfold haves
  rw [List.getElem?_map, List.getElem?_range hi]; rfl

theorem haves_last {g : Log} {a : List Log} (h : ∀ x ∈ a, x.c < g.c) (h0 : 0 ≤ g.c) (h8 : g.c < 8) : haves (a ++ [g]) = (haves a).set g.c.toNat (tot g) := by
  apply List.ext_getElem?
  intro i
  by_cases hi : i < 8
  · rw [haves_get _ hi, lkp_last _ h, List.getElem?_set]
    by_cases e : g.c.toNat = i
    · rw [if_pos (show (i : Int) = g.c by omega), if_pos e, if_pos (by rw [haves_length]; omega)]
    · rw [if_neg (show ¬ (i : Int) = g.c by omega), if_neg e, haves_get _ hi]
  · rw [List.getElem?_eq_none (by rw [haves_length]; omega), List.getElem?_eq_none (by rw [List.length_set, haves_length]; omega)]

theorem haves_nil : haves [] = List.replicate 8 0 := by decide

theorem have_spec {w : World} {s : Sl} {gs : List Log} (h : Logs w s gs) :
    CallsV Try.prog n_logs_Have #[.slice s.a s.len s.cap] w fun v w' => ∃ s' : Sl, v = .slice s'.a s'.len s'.cap ∧ OwnI w.heap.size 3 .i64 w' s' (haveL gs) ∧ Below w.heap.size w w' := by
  refine logs_Have.lift ?_
  unfold logs_Have.main
  refine ⟨by omega, by omega, by omega, by omega, ?_⟩
  intro w0
  have hb0 : Below w.heap.size w w0 := below_alloc _ _
  have ho0 : OwnI w.heap.size 3 .i64 w0 ⟨some (newA w), 8, 8⟩ (List.replicate 8 0) := make_ints (w := w) (n := 8) (e := 3) (k := .i64) (by unfold maxLen; omega)
  clear_value w0
  have h0 := Els.keep LogC.stab h hb0
  refine (check_spec h0).mono ?_
  rintro _ w1 ⟨rfl, hb1⟩
  have ho1 : OwnI w.heap.size 3 .i64 w1 ⟨some (newA w), 8, 8⟩ (List.replicate 8 0) := (Chg.of_below (F := fun _ => False) hb1).own ho0 fun _ _ h => h
  have hb01 := hb0.next hb1 (Nat.le_refl _)
  refine ⟨_, rfl, cond_n (fun hne => ?_) fun he => ?_⟩
  · refine ⟨⟨some (newA w), 8, 8⟩, rfl, ?_, hb01⟩
    unfold haveL
    rw [if_neg (ok01.1 hne)]
    exact ho1
  have hok : logsOk (-1) gs = true := Classical.byContradiction fun hn => ok01.2 hn he
  have hH : haveL gs = haves gs := by unfold haveL; rw [if_pos hok]
  rw [hH]
  have hl := h.len
  have hfit := ok_fit hok
  have hgl := hfit.1
  unfold logs_Have.l1
  show ∃ (I : Int → World → Prop) (μ : Int → World → Nat), _
  refine ⟨fun t w' => ∃ k : Nat, t = k ∧ k ≤ gs.length ∧ OwnI w.heap.size 3 .i64 w' ⟨some (newA w), 8, 8⟩ (haves (gs.take k)) ∧ Below w.heap.size w w', fun t _ => gs.length - t.toNat, ⟨0, rfl, Nat.zero_le _, by rw [List.take_zero, haves_nil]; exact ho1, hb01⟩, ?_⟩
  rintro _ w2 ⟨k, rfl, hk, ho2, hb2⟩
  unfold logs_Have.b1
  refine cond_d (fun hlt => ?_) fun hge => ?_
  · obtain ⟨p, g, m, hp, hg, c0, c1, c2, hm⟩ := Logs.get h (i := (k : Int)) (by omega) hlt
    rw [Int.toNat_natCast] at hg c0 c1 c2
    obtain ⟨_, g0, g8, gf0, gf1, gl, gb⟩ := logsOk_mem hok g (List.mem_of_getElem? hg)
    have hkl := (List.getElem?_eq_some_iff.1 hg).1
    simp only [Int.toNat_natCast]
    refine ⟨by omega, hlt, p, hp, _, hb2.here c0, _, hb2.here c1, _, _, _, hb2.here c2, ?_⟩
    have hml := hm.len
    refine ⟨fun j hj => wr_new _ _ _ hj, ?_⟩
    rw [box_set3]
    have hb3 : Below w2.heap.size w2 (w2.alloc (.cells #[.int .i64 g.c, .int .i64 g.f, .slice m.a m.len m.cap] 45)).drew := (below_alloc _ _).drew
    have e0 : (w2.alloc (.cells #[.int .i64 g.c, .int .i64 g.f, .slice m.a m.len m.cap] 45)).drew.cell? (newA w2) = some (.int .i64 g.c) := cell_new0 _ _ _
    have e1 : (w2.alloc (.cells #[.int .i64 g.c, .int .i64 g.f, .slice m.a m.len m.cap] 45)).drew.cell? ((newA w2).add 1) = some (.int .i64 g.f) := cell_new _ _ _ _
    have e2 : (w2.alloc (.cells #[.int .i64 g.c, .int .i64 g.f, .slice m.a m.len m.cap] 45)).drew.cell? ((newA w2).add 2) = some (.slice m.a m.len m.cap) := cell_new _ _ _ _
    refine ⟨fun x => x.cell? (newA w2) = some (.int .i64 g.c) ∧ x.cell? ((newA w2).add 1) = some (.int .i64 g.f) ∧ x.cell? ((newA w2).add 2) = some (.slice m.a m.len m.cap), ⟨e0, e1, e2⟩, _, fun x hx => hx.1, _, fun x hx => hx.1, _, fun x hx => hx.2.1, _, _, _, fun x hx => hx.2.2, ?_⟩
    refine (has_spec g.c g.f m _ ⟨gf0, gf1⟩ (by omega)).mono ?_
    rintro _ w3 ⟨rfl, hb4⟩
    have hb34 : Below w2.heap.size w2 w3 := hb3.next hb4 (Nat.le_refl _)
    have ho3 : OwnI w.heap.size 3 .i64 w3 ⟨some (newA w), 8, 8⟩ (haves (gs.take k)) := (Chg.of_below (F := fun _ => False) hb34).own ho2 fun _ _ h => h
    have hsp : gs = gs.take k ++ g :: gs.drop (k + 1) := by rw [← drop_eq hg, List.take_append_drop]
    have hpair : ∀ x ∈ gs.take k, x.c < g.c := ok_pair (by rw [← hsp]; exact hok)
    obtain ⟨hw, ho4, _⟩ := ho3.set rfl (j := g.c.toNat) (by rw [haves_length]; omega) (g.f + m.len)
    refine ⟨_, rfl, ⟨hb4.here e0, hb4.here e1, hb4.here e2⟩, g0, by show g.c < ((8 : Nat) : Int); omega, newA w, rfl, hw, ?_⟩
    rw [inc (by omega)]
    refine ⟨⟨trivial, trivial, trivial, k + 1, rfl, by omega, ?_, ?_⟩, by (try dsimp only); omega⟩
    · have e : gs.take (k + 1) = gs.take k ++ [g] := by rw [List.take_add_one, hg]; rfl
      rw [e, haves_last hpair g0 g8]
      have : tot g = g.f + (m.len : Int) := by unfold tot; rw [hml]
      rw [this]; exact ho4
    · exact (hb2.next hb34 (Nat.le_refl _)).setCell (by rw [add_block]; exact Nat.le_refl _) _
  · rw [List.take_of_length_le (by omega)] at ho2
    exact ⟨⟨some (newA w), 8, 8⟩, rfl, ho2, hb2⟩

/-- the page's judge of logs -/
theorem rlogs_spec {w : World} {s : Sl} {gs : List Log} (h : Logs w s gs) :
    CallsV Try.prog n_trystref22_Logs #[.slice s.a s.len s.cap] w fun v w' => v = .bool (logsOk (-1) gs) ∧ Below w.heap.size w w' := by
  have hl := h.len
  have hsm := h.small
  refine trystref22_Logs.lift ?_
  unfold trystref22_Logs.main trystref22_Logs.l1
  refine ⟨fun t w' => ∃ k : Nat, t = k ∧ k ≤ gs.length ∧ (∃ last : Int, logsOk (-1) gs = logsOk last (gs.drop k) ∧ (k = 0 → last = -1) ∧ ∀ g, 0 < k → gs[k - 1]? = some g → last = g.c) ∧ Below w.heap.size w w', fun t _ => gs.length - t.toNat, ⟨0, rfl, Nat.zero_le _, ⟨-1, rfl, fun _ => rfl, fun _ h0 => by omega⟩, Below.refl _ _⟩, ?_⟩
  rintro _ w1 ⟨k, rfl, hk, ⟨last, he, hl0, hl1⟩, hb⟩
  unfold trystref22_Logs.b1
  refine cond_d (fun hlt => ?_) fun hge => ?_
  · obtain ⟨p, g, m, hp, hg, c0, c1, c2, hm⟩ := Logs.get h (i := (k : Int)) (by omega) hlt
    rw [Int.toNat_natCast] at hg c0 c1 c2
    have hkl := (List.getElem?_eq_some_iff.1 hg).1
    rw [drop_eq hg] at he
    replace c0 := hb.here c0
    replace c1 := hb.here c1
    replace c2 := hb.here c2
    have bad : ∀ w', Below w.heap.size w w' → okLog last g = false → Value.bool false = .bool (logsOk (-1) gs) ∧ Below w.heap.size w w' := by
      intro w' hb' hh; refine ⟨?_, hb'⟩; rw [he]; unfold logsOk; rw [hh]; rfl
    have hml := hm.len
    simp only [Int.toNat_natCast]
    -- the bodies
    have hc3 : last < g.c → okClient g.c = true → 0 ≤ g.f → g.f ≤ 1073741824 → g.b.length ≤ 32 → trystref22_Logs.c3 (fun v w' => v = .bool (logsOk (-1) gs) ∧ Below w.heap.size w w') (fun l0' i3' w' => (l0' = s ∧ ∃ k : Nat, i3' = k ∧ k ≤ gs.length ∧ (∃ last : Int, logsOk (-1) gs = logsOk last (gs.drop k) ∧ (k = 0 → last = -1) ∧ ∀ g, 0 < k → gs[k - 1]? = some g → last = g.c) ∧ Below w.heap.size w w') ∧ gs.length - i3'.toNat < gs.length - k) s (k : Int) w1.drew := by
      intro t1 t2 t3 t4 t5
      unfold trystref22_Logs.c3 trystref22_Logs.l2
      refine ⟨fun t w' => ∃ j : Nat, t = j ∧ j ≤ g.b.length ∧ (∀ x ∈ g.b.take j, okBody x = true) ∧ Below w.heap.size w w' ∧ Below w1.heap.size w1 w', fun t _ => g.b.length - t.toNat, ⟨0, rfl, Nat.zero_le _, by simp, hb.drew, below_drew⟩, ?_⟩
      rintro _ w2 ⟨j, rfl, hj, ha, hb2, hb12⟩
      unfold trystref22_Logs.b2
      simp only [Int.toNat_natCast]
      refine ⟨by omega, hlt, p, hp, _, _, _, hb12.here c2, cond_d (fun hjl => ?_) fun hjg => ?_⟩
      · obtain ⟨qb, hqb, hcb⟩ := (hm.keep hb2).get (i := (j : Int)) (by omega) hjl
        rw [Int.toNat_natCast] at hcb
        have hx : g.b[j]? = some (g.b[j]?.getD 0) := by rw [List.getElem?_eq_getElem (by omega)]; rfl
        have badb : okBody (g.b[j]?.getD 0) = false → Value.bool false = .bool (logsOk (-1) gs) ∧ Below w.heap.size w w2 := by
          intro hh
          refine bad _ hb2 ?_
          cases hal : g.b.all okBody with
          | true =>
            rw [List.all_eq_true] at hal
            rw [hal _ (List.mem_of_getElem? hx)] at hh; cases hh
          | false => simp only [okLog, hal, Bool.and_false]
        refine ⟨by omega, hlt, p, hp, _, _, _, hb12.here c2, by omega, hjl, qb, hqb, _, hcb, cond_d (fun hneg => badb (by simp [okBody]; omega)) fun hn1 => ?_⟩
        refine ⟨by omega, hlt, p, hp, _, _, _, hb12.here c2, by omega, hjl, qb, hqb, _, hcb, cond_d (fun hbig => badb (by simp [okBody]; omega)) fun hn2 => ?_⟩
        have hb32 : g.b.length ≤ 32 := t5
        rw [inc (by omega)]
        refine ⟨⟨trivial, trivial, j + 1, rfl, by omega, ?_, hb2, hb12⟩, by (try dsimp only); omega⟩
        intro x hx'
        rw [List.take_add_one, hx] at hx'
        rcases List.mem_append.1 hx' with hx' | hx'
        · exact ha x hx'
        · simp at hx'; subst hx'; simp [okBody]; omega
      · have hall : g.b.all okBody = true := by
          rw [List.all_eq_true]
          rw [List.take_of_length_le (by omega)] at ha
          exact ha
        rw [inc (by omega)]
        refine ⟨⟨trivial, k + 1, rfl, by omega, ⟨g.c, ?_, fun h0 => by omega, fun g' _ hg' => ?_⟩, hb2⟩, by (try dsimp only); omega⟩
        · rw [he]
          show (okLog last g && _) = _
          have : okLog last g = true := by simp only [okLog, hall, t2, Bool.and_true, Bool.and_eq_true, decide_eq_true_eq]; exact ⟨⟨⟨t1, t3⟩, t4⟩, t5⟩
          rw [this]; rfl
        · rw [Nat.add_sub_cancel, hg] at hg'; cases hg'; rfl
    have hbd := hb.drew
    refine ⟨by omega, hlt, p, hp, _, c0, cond_d (fun hx => bad _ hbd (by simp [okLog, okClient]; omega)) fun n1 => ?_⟩
    refine ⟨by omega, hlt, p, hp, _, c0, cond_d (fun hx => bad _ hbd (by simp [okLog, okClient]; omega)) fun n2 => ?_⟩
    have hcl : okClient g.c = true := by simp [okClient]; omega
    refine cond_d (fun hk0 => ?_) fun hk0 => ?_
    · have hk1 : k - 1 < gs.length := by omega
      obtain ⟨p', g', m', hp', hg', c0', _, _, _⟩ := Logs.get h (i := ((k - 1 : Nat) : Int)) (by omega) (by omega)
      rw [Int.toNat_natCast] at hg' c0'
      rw [hp] at hp'
      obtain rfl := Option.some.inj hp'
      replace c0' := hb.here c0'
      have hlast := hl1 g' (by omega) hg'
      have ek : IntKind.i64.wrap ((k : Int) - 1) = ((k - 1 : Nat) : Int) := by rw [w64 (by omega)]; omega
      rw [ek]
      refine ⟨by omega, hlt, p, hp, _, c0, by omega, by omega, p, hp, g'.c, c0', cond_d (fun hx => bad _ hbd (by simp [okLog]; omega)) fun n3 => ?_⟩
      refine ⟨by omega, hlt, p, hp, _, c1, cond_d (fun hx => bad _ hbd (by simp [okLog]; omega)) fun n4 => ?_⟩
      refine ⟨by omega, hlt, p, hp, _, c1, cond_d (fun hx => bad _ hbd (by simp [okLog]; omega)) fun n5 => ?_⟩
      refine ⟨by omega, hlt, p, hp, _, _, _, c2, cond_d (fun hx => bad _ hbd (by simp [okLog]; omega)) fun n6 => ?_⟩
      exact hc3 (by omega) hcl (by omega) (by omega) (by omega)
    · have hlast := hl0 (by omega)
      refine ⟨by omega, hlt, p, hp, _, c1, cond_d (fun hx => bad _ hbd (by simp [okLog]; omega)) fun n4 => ?_⟩
      refine ⟨by omega, hlt, p, hp, _, c1, cond_d (fun hx => bad _ hbd (by simp [okLog]; omega)) fun n5 => ?_⟩
      refine ⟨by omega, hlt, p, hp, _, _, _, c2, cond_d (fun hx => bad _ hbd (by simp [okLog]; omega)) fun n6 => ?_⟩
      exact hc3 (by omega) hcl (by omega) (by omega) (by omega)
  · refine ⟨?_, hb⟩
    rw [he, List.drop_eq_nil_of_le (by omega)]; rfl

end Go.Proofs.Ytcegohgmagppbaa

/-
  Logs: the page's with.
-/
set_option linter.unusedVariables false
set_option linter.unusedSimpArgs false
namespace Go.Proofs.Ytcegohgmagppbaa
open Go.Lf Go.RowKit

theorem append_none (w : World) (d : Sl) (hd : d.len ≤ d.cap) : (builtin .append #[24, 24] 24 #[] #[.slice d.a d.len d.cap, .slice none 0 0]).run Try.prog w = .ok (.value (.slice d.a d.len d.cap)) w := by
  obtain ⟨i, hi, hz, hsz, hby⟩ := info_log
  cases ha : d.a with
  | none => simp [builtin, Builtin.append_, run_underlying Try.underlying24, run_sizeOf' hi, hsz, Builtin.lenOf, Builtin.firstCells, hd]
  | some a => simp [builtin, Builtin.append_, run_underlying Try.underlying24, run_sizeOf' hi, hsz, Builtin.lenOf, Builtin.firstCells, hd, storeCells]

theorem Sep.rowNone {B : Nat} {w : World} {l : List Asn} (k : Nat) {e : TypeId} {size : Nat} {s : Sl} {n : Nat} {vs : List Value} (hk : l[k]? = some (rowA e size s n vs)) (h : Sep B w l) (hn : s.a = none) : s.cap = 0 ∧ n = 0 := by
  obtain ⟨F, hr, hF, back⟩ := h.at k hk
  rcases hr.1.2 with ⟨h1, h0⟩ | ⟨g, cap, cur, h1, hB, hg, hnc, hcm, hcs, htk⟩
  · simp only [Value.slice.injEq] at h1
    exact ⟨h1.2.2, h0⟩
  · simp only [Value.slice.injEq] at h1
    rw [hn] at h1; cases h1.1

/-- the first ones anew -/
theorem head_spec {B : Nat} {w : World} {s : Sl} {L : List LS} {R : List Asn} {k : Nat} (h : Sep B w (lgA s L :: R)) (hk : k ≤ L.length) (hL : L.length ≤ 1000) :
    ∃ s1 : Sl, ∃ w1, (builtin .append #[24, 24] 24 #[] #[.slice none 0 0, .slice s.a k s.cap]).run Try.prog w = .ok (.value (.slice s1.a s1.len s1.cap)) w1 ∧ Sep B w1 (lgA s1 (L.take k) :: lgA s L :: R) ∧ Below w.heap.size w w1 := by
  obtain ⟨i, hi, hz, hsz, hby⟩ := info_log
  have hl : (L.take k).length = k := by rw [List.length_take]; omega
  obtain ⟨s1, w1, hr, hln, ho, hb⟩ := twin_go (P := Try.prog) (ty := 24) (size := 3) Try.underlying24 hi hz hsz hby rfl (by omega) (w := w) (s := ⟨s.a, k, s.cap⟩) (m := k) (news := flat lgV (L.take k)) rfl (by rw [flat_length lgV_length, hl]) (fun a ha j u hu => by
    rw [← flat_take hk, List.getElem?_take] at hu
    split at hu
    · exact Sep.rowAll (s := s) 0 rfl h a ha j u hu
    · cases hu) (fun hn => by have := lgA_none (s := s) 0 rfl h hn; subst this; simpa using hk) one_lgV (by unfold maxLen; omega) (by omega)
  refine ⟨s1, w1, hr, ?_, hb⟩
  have := h.row ho hb
  unfold lgA at this ⊢
  rw [hl]; exact this

/-- one behind them -/
theorem one_spec {B : Nat} {w : World} {s : Sl} {L : List LS} {R : List Asn} {y : LS} {a : Addr} (h : Sep B w (lgA s L :: R)) (ha : ∀ (j : Nat) (u : Value), (lgV y)[j]? = some u → w.cell? (a.add j) = some u) (hL : L.length ≤ 1000) :
    ∃ s1 : Sl, ∃ w1, (builtin .append #[24, 24] 24 #[] #[.slice s.a s.len s.cap, .slice (some a) 1 1]).run Try.prog w = .ok (.value (.slice s1.a s1.len s1.cap)) w1 ∧ Sep B w1 (lgA s1 (L ++ [y]) :: R) ∧ Below B w w1 := by
  obtain ⟨i, hi, hz, hsz, hby⟩ := info_log
  obtain ⟨s', w4, hr, hln, h4, hb4⟩ := h.append (P := Try.prog) (ty := 24) (size := 3) (c := 1) (m := 1) Try.underlying24 hi hz hsz hby rfl (by omega) 0 rfl (a := a) (news := lgV y) rfl ha (one_cell y) (by unfold maxLen; omega) (by omega) (by omega)
  refine ⟨s', w4, hr, ?_, hb4⟩
  unfold lgA
  rw [flat_app, flat_one, List.length_append]
  exact h4

/-- and the rest -/
theorem rest_spec {B : Nat} {w : World} {s s0 : Sl} {L L0 : List LS} {R : List Asn} {k : Nat} (h : Sep B w (lgA s L :: lgA s0 L0 :: R)) (hk : k ≤ L0.length) (hL : L.length ≤ 2000) (hL0 : L0.length ≤ 1000) (hne : 0 < L.length) :
    ∃ s1 : Sl, ∃ w1, (builtin .append #[24, 24] 24 #[] #[.slice s.a s.len s.cap, .slice (if s0.cap = k then s0.a else Option.map (fun x => x.add (k * 3)) s0.a) (s0.len - k) (s0.cap - k)]).run Try.prog w = .ok (.value (.slice s1.a s1.len s1.cap)) w1 ∧ Sep B w1 (lgA s1 (L ++ L0.drop k) :: lgA s0 L0 :: R) ∧ Below B w w1 := by
  obtain ⟨i, hi, hz, hsz, hby⟩ := info_log
  have hl0 : s0.len = L0.length := (h.rowLen 1 rfl).1
  cases ha : s0.a with
  | none =>
    have hz0 := Sep.rowNone 1 rfl h ha
    have := lgA_none 1 rfl h ha
    subst this
    have hk0 : k = 0 := by simpa using hk
    subst hk0
    refine ⟨s, w, ?_, by simpa using h, Below.refl _ _⟩
    have := append_none w s (by have := h.rowCap 0 rfl; have := (h.rowLen 0 rfl).1; omega)
    rw [hl0, hz0.1]
    simpa using this
  | some q =>
    have hcap := h.rowCap 1 rfl
    have hread := Sep.rowAll 1 rfl h q ha
    obtain ⟨a, hea⟩ : ∃ a, (if s0.cap = k then some q else Option.map (fun x => x.add (k * 3)) (some q)) = some a ∧ (s0.cap = k ∨ a = q.add (k * 3)) := by
      split
      · exact ⟨q, rfl, .inl ‹_›⟩
      · exact ⟨_, rfl, .inr rfl⟩
    rw [hea.1]
    have hdl : (L0.drop k).length = s0.len - k := by rw [List.length_drop, hl0]
    obtain ⟨s', w4, hr, hln, h4, hb4⟩ := h.append (P := Try.prog) (ty := 24) (size := 3) (c := s0.cap - k) (m := s0.len - k) Try.underlying24 hi hz hsz hby rfl (by omega) 0 rfl (a := a) (news := flat lgV (L0.drop k)) (by rw [flat_length lgV_length, hdl]) (fun j u hu => by
      rcases hea.2 with hc | rfl
      · have := (List.getElem?_eq_some_iff.1 hu).1
        rw [flat_length lgV_length, hdl] at this
        omega
      · rw [← flat_drop hk, List.getElem?_drop] at hu
        rw [add_add]
        exact hread _ u hu) one_lgV (by unfold maxLen; omega) (by omega) (by omega)
    refine ⟨s', w4, hr, ?_, hb4⟩
    have e : lgA s' (L ++ L0.drop k) = rowA 45 3 s' (L.length + (s0.len - k)) (flat lgV L ++ flat lgV (L0.drop k)) := by
      unfold lgA
      rw [flat_app, List.length_append, hdl]
    rw [e]
    exact h4

def withR (c b : Int) (gs : List Log) : List Log × Int := if 32 ≤ (lkp c gs).b.length then ([], 20) else (addR c b gs, 0)

theorem with_spec {w : World} {s : Sl} {gs : List Log} (h : Logs w s gs) (hok : logsOk (-1) gs = true) (c b : Int) :
    CallsV Try.prog n_trystref22_with #[.slice s.a s.len s.cap, .int .i64 c, .int .i64 b] w fun v w' => ∃ s' : Sl, v = .tuple #[.slice s'.a s'.len s'.cap, .int .i64 (withR c b gs).2] ∧ New w.heap.size w' s' (withR c b gs).1 ∧ Below w.heap.size w w' := by
  have hf := ok_fit hok
  have hrng := lkp_rng hok c
  refine trystref22_with.lift ?_
  unfold trystref22_with.main
  refine (twinLogs_spec h hf).mono ?_
  rintro _ w1 ⟨s1, rfl, ⟨L, hL, h1⟩, hb⟩
  refine ⟨_, _, _, rfl, ?_⟩
  have hLl : L.length = gs.length := by rw [← hL, List.length_map]
  have hgl := hf.1
  have hl1 : s1.len = L.length := (h1.rowLen 0 rfl).1
  have hcap := h1.rowCap 0 rfl
  -- one more body
  have hc1 : ∀ (w5 : World) (s5 : Sl) (L5 : List LS), Below w.heap.size w w5 → L5.map (·.1) = insR c gs → Sep w.heap.size w5 (lgA s5 L5 :: L5.map bodA) → trystref22_with.c1 (fun v w' => ∃ s' : Sl, v = .tuple #[.slice s'.a s'.len s'.cap, .int .i64 (withR c b gs).2] ∧ New w.heap.size w' s' (withR c b gs).1 ∧ Below w.heap.size w w') b s5 (pos c gs : Nat) w5 := by
    intro w5 s5 L5 hb5 hL5 h5
    have hp := pos_get c gs
    rw [← hL5, List.getElem?_map, Option.map_eq_some_iff] at hp
    obtain ⟨y, hy, hyl⟩ := hp
    have hplt := (List.getElem?_eq_some_iff.1 hy).1
    have hl5 : s5.len = L5.length := (h5.rowLen 0 rfl).1
    obtain ⟨q, hq, c2, hyn, c0, c1, c2', t, w3, hr, htl, hwr, h4, hb4⟩ := grow_spec h5 hy (by rw [hyl]; omega) b
    unfold trystref22_with.c1
    simp only [Int.toNat_natCast]
    refine ⟨by omega, by omega, q, hq, _, _, _, c2, cond_d (fun h32 => ?_) fun h32 => ?_⟩
    · have hR : withR c b gs = ([], 20) := by unfold withR; rw [if_pos (by rw [← hyl]; omega)]
      rw [hR]
      exact ⟨⟨none, 0, 0⟩, rfl, New.nil hb5.size, hb5⟩
    · have hR : withR c b gs = (addR c b gs, 0) := by unfold withR; rw [if_neg (by rw [← hyl]; omega)]
      rw [hR]
      refine ⟨by omega, by omega, q, hq, _, _, _, c2, _, _, _, w3, hr, by omega, by omega, q, hq, hwr, s5, rfl, ⟨_, ?_, h4⟩, hb5.trans hb4⟩
      rw [List.map_set, hL5, hyl, pos_set]
  show trystref22_with.l4 _ c b s1 0 w1
  unfold trystref22_with.l4
  refine ⟨fun t w' => w' = w1 ∧ ∃ k : Nat, t = k ∧ k ≤ gs.length ∧ ∀ g ∈ gs.take k, g.c < c, fun t _ => gs.length - t.toNat, ⟨rfl, 0, rfl, Nat.zero_le _, by simp⟩, ?_⟩
  rintro _ w2 ⟨hw, k, rfl, hk, ha⟩
  subst hw
  have hsplit : (gs.drop k = [] ∨ ∃ g r', gs.drop k = g :: r' ∧ ¬ g.c < c) → pos c gs = k ∧ insR c gs = gs.take k ++ insR c (gs.drop k) := by
    intro hx
    have := at_split c (gs.take k) (gs.drop k) ha hx
    rw [List.take_append_drop] at this
    refine ⟨?_, this.2.2.1⟩
    rw [this.1, List.length_take]; omega
  have hnew : (gs.drop k = [] ∨ ∃ g r', gs.drop k = g :: r' ∧ c < g.c) → trystref22_with.c2 (fun v w' => ∃ s' : Sl, v = .tuple #[.slice s'.a s'.len s'.cap, .int .i64 (withR c b gs).2] ∧ New w.heap.size w' s' (withR c b gs).1 ∧ Below w.heap.size w w') c b s1 (k : Int) w2 := by
    intro hx
    obtain ⟨hp, hi⟩ := hsplit (hx.imp id fun ⟨g, r', e, hlt⟩ => ⟨g, r', e, by omega⟩)
    have hi' : insR c (gs.drop k) = ⟨c, 0, []⟩ :: gs.drop k := by
      rcases hx with hx | ⟨g, r', e, hlt⟩
      · rw [hx]; rfl
      · rw [e]; unfold insR; rw [if_neg (by omega), if_neg (by omega)]
    have hkL : k ≤ L.length := by omega
    have hcap2 := hcap.2
    unfold maxLen at hcap2
    unfold trystref22_with.c2
    simp only [Int.toNat_natCast, Int.toNat_zero, Nat.sub_zero, Nat.zero_mul, add_zero, Option.map_id', id_eq, ite_self]
    have hfin : ∀ w5 s5, Below w.heap.size w w5 → Sep w.heap.size w5 (lgA s5 (L.take k ++ [(⟨c, 0, []⟩, ⟨none, 0, 0⟩)] ++ L.drop k) :: lgA s1 L :: L.map bodA) → trystref22_with.c1 (fun v w' => ∃ s' : Sl, v = .tuple #[.slice s'.a s'.len s'.cap, .int .i64 (withR c b gs).2] ∧ New w.heap.size w' s' (withR c b gs).1 ∧ Below w.heap.size w w') b s5 (k : Int) w5 := by
      intro w5 s5 hb5 h5
      rw [← hp]
      refine hc1 w5 s5 (L.take k ++ (⟨c, 0, []⟩, ⟨none, 0, 0⟩) :: L.drop k) hb5 ?_ ?_
      · rw [List.map_append, List.map_cons, List.map_take, List.map_drop, hL, hi, hi']
      · have h6 := (h5.swap.drop.rowNil 3 1).swap
        rw [List.append_assoc] at h6
        refine h6.perm (.cons _ ?_)
        rw [List.map_append, List.map_cons]
        have : L.map bodA = (L.take k).map bodA ++ (L.drop k).map bodA := by rw [← List.map_append, List.take_append_drop]
        rw [this]
        exact List.perm_middle.symm
    have htl : (L.take k).length = k := by rw [List.length_take]; omega
    refine ⟨fun _ => True, trivial, by omega, by omega, by omega, by omega, by omega, by omega, by omega, by omega, ?_, ?_⟩
    · obtain ⟨sA, wA, hrA, hA, hbA⟩ := head_spec h1.drew hkL (by omega)
      have hba := below_alloc wA (.cells #[.int .i64 c, .int .i64 0, .slice none 0 0] 45)
      have hA2 := hA.keep hba
      obtain ⟨sB, wB, hrB, hB, hbB⟩ := one_spec (y := ((⟨c, 0, []⟩, ⟨none, 0, 0⟩) : LS)) (a := newA wA) hA2 (fun j u hu => by
        refine (cell_new _ _ _ _).trans ?_
        simpa [lgV] using hu) (by omega)
      obtain ⟨sC, wC, hrC, hC, hbC⟩ := rest_spec hB hkL (by rw [List.length_append, htl]; simp; omega) (by omega) (by rw [List.length_append]; simp)
      refine ⟨_, _, _, wA, hrA, _, _, _, wB, hrB, _, _, _, wC, hrC, hfin _ _ ?_ hC⟩
      exact (((hb.drew.next hbA (Nat.le_refl _)).next hba (Nat.le_refl _)).trans hbB).trans hbC
    · have hba := below_alloc w2.drew (.cells #[.int .i64 c, .int .i64 0, .slice none 0 0] 45)
      obtain ⟨sA, wA, hrA, hA, hbA⟩ := head_spec (h1.drew.keep hba) hkL (by omega)
      obtain ⟨sB, wB, hrB, hB, hbB⟩ := one_spec (y := ((⟨c, 0, []⟩, ⟨none, 0, 0⟩) : LS)) (a := newA w2.drew) hA (fun j u hu => by
        refine hbA.here ((cell_new _ _ _ _).trans ?_)
        simpa [lgV] using hu) (by omega)
      obtain ⟨sC, wC, hrC, hC, hbC⟩ := rest_spec hB hkL (by rw [List.length_append, htl]; simp; omega) (by omega) (by rw [List.length_append]; simp)
      refine ⟨_, _, _, wA, hrA, _, _, _, wB, hrB, _, _, _, wC, hrC, hfin _ _ ?_ hC⟩
      exact (((hb.drew.next hba (Nat.le_refl _)).next hbA (Nat.le_refl _)).trans hbB).trans hbC
  have hold : ∀ g r', gs.drop k = g :: r' → g.c = c → trystref22_with.c1 (fun v w' => ∃ s' : Sl, v = .tuple #[.slice s'.a s'.len s'.cap, .int .i64 (withR c b gs).2] ∧ New w.heap.size w' s' (withR c b gs).1 ∧ Below w.heap.size w w') b s1 (k : Int) w2 := by
    intro g r' e he
    obtain ⟨hp, hi⟩ := hsplit (.inr ⟨g, r', e, by omega⟩)
    rw [← hp]
    refine hc1 w2 s1 L hb ?_ h1
    rw [hL, hi, e]
    unfold insR
    rw [if_neg (by omega), if_pos he, ← e, List.take_append_drop]
  have hget : k < gs.length → ∃ g q, gs[k]? = some g ∧ gs.drop k = g :: gs.drop (k + 1) ∧ s1.a = some q ∧ w2.cell? (q.add (k * 3)) = some (.int .i64 g.c) := by
    intro hlt
    obtain ⟨x, hx⟩ : ∃ x, L[k]? = some x := ⟨_, List.getElem?_eq_getElem (by omega)⟩
    obtain ⟨q, hq, hc⟩ := Sep.rowGet 0 (by omega) lgV_length rfl h1 hx
    have := hc 0 _ rfl
    rw [add_zero] at this
    have hg : gs[k]? = some x.1 := by rw [← hL, List.getElem?_map, hx]; rfl
    exact ⟨x.1, q, hg, drop_eq hg, hq, this⟩
  have hc3 : (gs.drop k = [] ∨ ∃ g r', gs.drop k = g :: r' ∧ ¬ g.c < c) → trystref22_with.c3 (fun v w' => ∃ s' : Sl, v = .tuple #[.slice s'.a s'.len s'.cap, .int .i64 (withR c b gs).2] ∧ New w.heap.size w' s' (withR c b gs).1 ∧ Below w.heap.size w w') c b s1 (k : Int) w2 := by
    intro hx
    unfold trystref22_with.c3
    refine cond_e (fun he => hnew (.inl (List.drop_of_length_le (by omega)))) fun hne => ?_
    have hlt : k < gs.length := by omega
    obtain ⟨g, q, hg, hd, hq, hcell⟩ := hget hlt
    have hge : ¬ g.c < c := by
      rcases hx with hx | ⟨g', r', e, hlt'⟩
      · rw [hx] at hd; cases hd
      · rw [hd] at e; cases e; exact hlt'
    refine ⟨by omega, by omega, q, hq, g.c, by rw [Int.toNat_natCast]; exact hcell, cond_n (fun hne2 => hnew (.inr ⟨g, _, hd, by omega⟩)) fun he => hold g _ hd he⟩
  unfold trystref22_with.b4
  refine cond_d (fun hlt => ?_) fun hge => hc3 (.inl (List.drop_of_length_le (by omega)))
  have hlt' : k < gs.length := by omega
  obtain ⟨g, q, hg, hd, hq, hcell⟩ := hget hlt'
  refine ⟨by omega, hlt, q, hq, g.c, by rw [Int.toNat_natCast]; exact hcell, cond_d (fun hc => ?_) fun hc => hc3 (.inr ⟨g, _, hd, hc⟩)⟩
  unfold trystref22_with.c5
  rw [inc (by omega)]
  refine ⟨⟨rfl, rfl, rfl, rfl, k + 1, rfl, by omega, ?_⟩, by (try dsimp only); omega⟩
  intro x hx
  rw [List.take_add_one, hg] at hx
  rcases List.mem_append.1 hx with hx | hx
  · exact ha x hx
  · simp at hx; subst hx; exact hc

end Go.Proofs.Ytcegohgmagppbaa
