/-
  DiskSafe: its contract.
-/
import Derived.Test.YtnnpkjhpeefnbaaDiH
set_option linter.unusedVariables false
set_option linter.unusedSimpArgs false
namespace Go.Proofs.Ytnnpkjhpeefnbaa
open Go.Lf Go.RowKit

def slC (s : Sl) : List Value := [.slice s.a s.len s.cap]
theorem slC.w (s : Sl) : (slC s).length = 1 := rfl

theorem mod10u (x : Int) : ∃ i : Nat, IntKind.i64.wrap (10 + (IntKind.i64.wrap (Int.tmod (IntKind.u64.wrap x) 10))) = i ∧ 10 ≤ i ∧ i < 20 := by
  have h0 : 0 ≤ IntKind.u64.wrap x := by rw [IntKind.wrap_u64]; omega
  rw [tmod_nn h0, w64 (n := IntKind.u64.wrap x % 10) (by omega), w64 (by omega)]
  exact ⟨(10 + IntKind.u64.wrap x % 10).toNat, by omega, by omega, by omega⟩

theorem t52 : ∃ i, Try.prog.info? 52 = some i ∧ i.zero = some (.slice none 0 0) ∧ i.size = 1 ∧ i.bytes = 24 := ⟨Try.t52, by kernel_rfl, by kernel_rfl, by kernel_rfl, by kernel_rfl⟩

/-- the first writes -/
def firstD (rows : List (List Int)) (k : Nat) : DS := ⟨List.replicate 20 (some (List.replicate 64 0)), ((List.range k).map fun j => (j, padI (rows[j]?.getD []))), false, none⟩
theorem firstD_succ (rows : List (List Int)) {k : Nat} (h : k < 20) {x : List Int} (hx : rows[k]? = some x) : writeD (firstD rows k) (k : Int) (padI x) = (0, firstD rows (k + 1)) := by
  rw [choice_write rfl rfl (by simp [firstD]; omega) (padI_len x)]
  have : firstD rows (k + 1) = addD (firstD rows k) k (padI x) := by
    simp only [firstD, addD, List.range_succ, List.map_append, List.map_cons, List.map_nil, hx, Option.getD_some]
  rw [this]
theorem nowOf_range (f : Nat → List Int) : ∀ (k : Nat) (s : List (Option (List Int))), k ≤ s.length → ∀ j, j < k → (nowOf s ((List.range k).map fun j => (j, f j)))[j]? = some (some (f j))
  | 0, _, _, j, h => by omega
  | k + 1, s, hk, j, hj => by
    rw [List.range_succ, List.map_append, List.map_cons, List.map_nil, nowOf_app]
    by_cases hjk : j = k
    · subst hjk
      rw [List.getElem?_set_self (by rw [nowOf_length]; omega)]
    · rw [List.getElem?_set_ne (by omega)]
      exact nowOf_range f k s (by omega) j (by omega)
theorem first_sync (rows : List (List Int)) (hr : rows.length ≤ 10) : (syncD (firstD rows rows.length)).1 = 0 ∧ Held rows (syncD (firstD rows rows.length)).2 := by
  have e : syncD (firstD rows rows.length) = (0, ⟨nowOf (List.replicate 20 (some (List.replicate 64 0))) ((List.range rows.length).map fun j => (j, padI (rows[j]?.getD []))), [], false, none⟩) := rfl
  rw [e]
  refine ⟨rfl, by show (nowOf _ _).length = 20; rw [nowOf_length, List.length_replicate], fun i x hx => ?_, fun p hp => by cases hp⟩
  have := nowOf_range (fun j => padI (rows[j]?.getD [])) rows.length (List.replicate 20 (some (List.replicate 64 0))) (by rw [List.length_replicate]; omega) i (List.getElem?_eq_some_iff.1 hx).1
  exact this.trans (by rw [hx]; rfl)

theorem safe13_spec {w : World} {rs ls : Sl} {rows : List (List Int)} {l : List Act} (hrows : Els 1 (IntsC .u8) w rs rows) (hl : Acts w ls l) :
    CallsV Try.prog n_trystlaw13_DiskSafe #[.slice rs.a rs.len rs.cap, .slice ls.a ls.len ls.cap] w fun v w' => v = .bool true ∧ Below w.heap.size w w' := by
  refine trystlaw13_DiskSafe.lift ?_
  unfold trystlaw13_DiskSafe.main
  have hrl := hrows.len
  have hll := hl.len
  refine (heavy_spec hl).mono ?_
  rintro _ _ ⟨⟨hb, rfl, hlight⟩, rfl⟩
  refine ⟨_, rfl, cond_c (fun _ => ⟨rfl, Below.refl _ _⟩) fun hbf => ?_⟩
  obtain ⟨hl400, hl100⟩ := hlight hbf
  refine cond_d (fun _ => ⟨rfl, Below.refl _ _⟩) fun hr1 => cond_d (fun _ => ⟨rfl, Below.refl _ _⟩) fun hr10 => ?_
  unfold trystlaw13_DiskSafe.c9
  have hR : rows.length ≤ 10 := by omega
  refine (new_spec (Sep.nil (Nat.le_refl w.heap.size)) 20 (by omega) (by omega)).mono ?_
  rintro _ w1 ⟨d, rfl, h1, hb1⟩
  refine ⟨_, _, rfl, cond_n (fun h => absurd rfl h) fun _ => cond_f' rfl ?_⟩
  unfold trystlaw13_DiskSafe.c8 trystlaw13_DiskSafe.l7
  have h1' : Sep w.heap.size w1 [rowA 52 1 ⟨none, 0, 0⟩ 0 [], intsAll .u8 [], diskA d (newD 20)] := (h1.intsNil .u8).rowNil 52 1
  refine ⟨fun t w' => ∃ k : Nat, t.2 = k ∧ k ≤ rows.length ∧ ∃ (sls : List Sl) (L : List (Sl × List Int)), sls.length = k ∧ (∀ (j : Nat) (s : Sl) (x : List Int), sls[j]? = some s → rows[j]? = some x → (s, padI x) ∈ L) ∧
      Sep w.heap.size w' [rowA 52 1 t.1 sls.length (flat slC sls), intsAll .u8 L, diskA d (firstD rows k)] ∧ Below w.heap.size w w', fun t _ => rows.length - t.2.toNat,
    ⟨0, rfl, Nat.zero_le _, [], [], rfl, (fun j s x h => by simp at h), h1', hb1⟩, ?_⟩
  rintro ⟨sw, _⟩ w2 ⟨k, rfl, hk, sls, L, hsl, hL, h2, hb2⟩
  dsimp only at h2 ⊢
  unfold trystlaw13_DiskSafe.b7
  refine cond_d (fun hlt => ?_) fun hge => ?_
  · have hk' : k < rows.length := by omega
    obtain ⟨p, x, cs, hp, _, hx, hc, m, rfl, hm⟩ := (hrows.keep IntsC.stab hb2).get (i := (k : Int)) (by omega) hlt
    have hc0 := hc 0 _ rfl
    rw [add_zero, Nat.mul_one] at hc0
    rw [Int.toNat_natCast] at hx
    have hml := hm.len
    refine ⟨by omega, hlt, p, hp, _, _, _, hc0, cond_d (fun _ => ⟨rfl, hb2⟩) fun h500 => ⟨by omega, hlt, p, hp, _, _, _, hc0, ?_⟩⟩
    refine (sector_spec hm).mono ?_
    rintro _ w3 ⟨s3, rfl, ho3, hb3⟩
    refine ⟨_, _, _, rfl, ?_⟩
    have h3 := h2.intsMore 1 rfl ho3 (by rw [padI_len]; omega) hb3
    have hB3 := hb2.next hb3 (Nat.le_refl _)
    intro w4
    obtain ⟨h4, hb4⟩ := Sep.box h3 [.slice s3.a s3.len s3.cap] 52
    obtain ⟨ii, hi, hz, hsz, hby⟩ := t52
    obtain ⟨sw', w5, hrun, hlen5, h5, hb5⟩ := Sep.append (ty := 58) (c := 1) Try.underlying58 hi hz hsz hby rfl (by omega) 0 rfl h4.drop (m := 1) (news := slC s3) rfl (fun m u hu => h4.cell 0 rfl m hu) (by intro u hu; simp [slC] at hu; subst hu; rfl) (by unfold maxLen; omega) (by omega) (by omega)
    have e1 : flat slC (sls ++ [s3]) = flat slC sls ++ slC s3 := by rw [flat_app, flat_one]
    have h5' : Sep w.heap.size w5 [rowA 52 1 sw' (sls ++ [s3]).length (flat slC (sls ++ [s3])), intsAll .u8 ((s3, padI x) :: L), diskA d (firstD rows k)] := by
      rw [e1, List.length_append]; exact h5
    have hB5 := (hB3.trans hb4).trans hb5
    obtain ⟨q, hq, hcq⟩ := h5'.rowGet 0 (by omega) slC.w rfl (i := k) (x := s3) (by rw [← hsl]; simp)
    have hcq0 := hcq 0 _ rfl
    rw [add_zero, Nat.mul_one] at hcq0
    refine ⟨_, _, _, _, hrun, by omega, by rw [hlen5]; omega, q, hq, _, _, _, by rw [Int.toNat_natCast]; exact hcq0, ?_⟩
    have h5f := h5'.front 2 rfl
    refine (write_spec (bs := padI x) h5f ⟨by simp [firstD]; omega, fun t ht => by cases ht⟩ (k : Int) (by rw [padI_len]; omega) fun w' _ hS => hS.intsAt 1 rfl List.mem_cons_self).mono ?_
    rintro _ w6 ⟨rfl, h6, hb6⟩
    rw [firstD_succ rows (by omega) hx] at h6 ⊢
    refine ⟨_, rfl, cond_n (fun h => absurd rfl h) fun _ => ?_⟩
    rw [inc (by omega)]
    have h6' : Sep w.heap.size w6 [rowA 52 1 sw' (sls ++ [s3]).length (flat slC (sls ++ [s3])), intsAll .u8 ((s3, padI x) :: L), diskA d (firstD rows (k + 1))] := h6.back 2 (by simp)
    refine ⟨⟨rfl, rfl, rfl, k + 1, rfl, hk', sls ++ [s3], (s3, padI x) :: L, by simp [hsl], fun j s y hs hy => ?_, h6', hB5.trans hb6⟩, by (try dsimp only); omega⟩
    by_cases hj : j < sls.length
    · rw [List.getElem?_append_left hj] at hs
      exact List.mem_cons_of_mem _ (hL j s y hs hy)
    · have hj2 : j = k := by have := (List.getElem?_eq_some_iff.1 hs).1; simp at this; omega
      subst hj2
      rw [List.getElem?_append_right (by omega)] at hs
      simp [hsl] at hs
      subst hs
      rw [hx] at hy
      obtain rfl := Option.some.inj hy
      exact List.mem_cons_self
  have hkr : k = rows.length := by omega
  subst hkr
  unfold trystlaw13_DiskSafe.c6
  have h2f := h2.front 2 rfl
  refine (sync_spec h2f ⟨by simp [firstD]; omega, fun t ht => by cases ht⟩).mono ?_
  rintro _ w3 ⟨rfl, h3, hb3⟩
  obtain ⟨hs0, hheld⟩ := first_sync rows hR
  refine ⟨_, rfl, cond_n (fun h => absurd hs0 h) fun _ => ?_⟩
  have h3' := h3.back 2 (by simp)
  unfold trystlaw13_DiskSafe.l4
  refine ⟨fun t w' => ∃ k : Nat, t = k ∧ k ≤ l.length ∧ ∃ st, Held rows st ∧ Wf k st ∧ Sep w.heap.size w' [rowA 52 1 sw sls.length (flat slC sls), intsAll .u8 L, diskA d st] ∧ Below w.heap.size w w', fun t _ => l.length - t.toNat,
    ⟨0, rfl, Nat.zero_le _, _, hheld, ⟨Nat.le_refl _, fun t ht => by cases ht⟩, h3', hb2.trans hb3⟩, ?_⟩
  rintro _ w4 ⟨k, rfl, hk, st, hst, hwf, h4, hb4⟩
  unfold trystlaw13_DiskSafe.b4
  have fin : trystlaw13_DiskSafe.c3 (fun v w' => v = .bool true ∧ Below w.heap.size w w') (some d) sw w4 := by
    unfold trystlaw13_DiskSafe.c3
    refine (start_spec (h4.front 2 rfl)).mono ?_
    rintro _ w5 ⟨rfl, h5, hb5⟩
    refine ⟨rfl, ?_⟩
    have h5' := h5.back 2 (by simp)
    have hst5 := hst.start
    have ho5 : (startD st).off = false := rfl
    unfold trystlaw13_DiskSafe.l2
    refine ⟨fun t w' => ∃ j : Nat, t = j ∧ j ≤ rows.length ∧ Sep w.heap.size w' [rowA 52 1 sw sls.length (flat slC sls), intsAll .u8 L, diskA d (startD st)] ∧ Below w.heap.size w w', fun t _ => rows.length - t.toNat,
      ⟨0, rfl, Nat.zero_le _, h5', hb4.trans hb5⟩, ?_⟩
    rintro _ w6 ⟨j, rfl, hj, h6, hb6⟩
    unfold trystlaw13_DiskSafe.b2
    have hswl := (h6.rowLen 0 rfl).1
    refine cond_d (fun hlt => ?_) fun hge => ?_
    · have hj' : j < rows.length := by omega
      obtain ⟨x, hx⟩ : ∃ x, rows[j]? = some x := ⟨_, List.getElem?_eq_getElem hj'⟩
      obtain ⟨s, hs⟩ : ∃ s, sls[j]? = some s := ⟨_, List.getElem?_eq_getElem (by omega)⟩
      refine (read_spec (h6.front 2 rfl) (j : Int)).mono ?_
      rintro _ w7 ⟨s7, rfl, hI7, h7, hb7⟩
      rw [hst5.read hR ho5 hx] at hI7 ⊢
      have h7' := h7.drop.back 2 (by simp)
      obtain ⟨q, hq, hcq⟩ := h7'.rowGet 0 (by omega) slC.w rfl hs
      have hcq0 := hcq 0 _ rfl
      rw [add_zero, Nat.mul_one] at hcq0
      refine ⟨_, _, _, _, rfl, cond_n (fun h => absurd rfl h) fun _ => ⟨by omega, by omega, q, hq, _, _, _, by rw [Int.toNat_natCast]; exact hcq0, ?_⟩⟩
      refine (bytes_spec hI7 (h7'.intsAt 1 rfl (hL j s x hs hx))).mono ?_
      rintro _ w8 ⟨rfl, hs8⟩
      refine ⟨_, rfl, cond_f' (by simp) ?_⟩
      rw [inc (by omega)]
      exact ⟨⟨rfl, rfl, j + 1, rfl, hj', h7'.same hs8, (hb6.next hb7 (Nat.le_refl _)).trans (hs8.below _)⟩, by (try dsimp only); omega⟩
    · unfold trystlaw13_DiskSafe.c1
      refine (wakes13_spec w6).mono ?_
      rintro _ w7 ⟨rfl, hb7⟩
      exact ⟨_, rfl, rfl, hb6.next hb7 (Nat.le_refl _)⟩
  refine cond_d (fun hlt => cond_d (fun h100 => ?_) fun _ => fin) fun _ => fin
  unfold trystlaw13_DiskSafe.c5
  obtain ⟨p, a, sb, sk, hp, ha, c0, c1, c2, c3, c4, c5, hIb, hBk, hai⟩ := Acts.get hl (i := (k : Int)) (by omega) hlt
  have hk' : k < l.length := by omega
  obtain ⟨hab, hak⟩ := hl100 k a (by omega) (by rw [Int.toNat_natCast] at ha; exact ha)
  refine ⟨by omega, hlt, p, hp, _, hb4.here c0, _, hb4.here c1, _, _, _, hb4.here c2, _, hb4.here c3, _, _, _, hb4.here c4, _, hb4.here c5, fun j hj => wr_new _ _ _ (by simpa using hj), ?_⟩
  intro w6
  have e6 : w6 = w4.alloc (.cells #[.int .i64 a.what, .int .i64 a.i, .slice sb.a sb.len sb.cap, .bool a.raw, .slice sk.a sk.len sk.cap, .int .i64 a.torn] 63) := box_set (zs := [.int .i64 0, .int .i64 0, .slice none 0 0, .bool false, .slice none 0 0, .int .i64 0]) rfl
  clear_value w6
  have hb6 : Below w4.heap.size w4 w6 := by rw [e6]; exact below_alloc _ _
  have h6 := h4.keep hb6
  have hB6 := hb4.next hb6 (Nat.le_refl _)
  have n0 : w6.cell? (newA w4) = some (.int .i64 a.what) := by rw [e6]; exact cell_new0 _ _ _
  have nj : ∀ (j : Nat) u, ([.int .i64 a.what, .int .i64 a.i, .slice sb.a sb.len sb.cap, .bool a.raw, .slice sk.a sk.len sk.cap, .int .i64 a.torn] : List Value)[j]? = some u → w6.cell? ((newA w4).add j) = some u := fun j u hu => by rw [e6, cell_new]; simpa using hu
  have next : ∀ (st' : DS) (w7 : World), Held rows st' → Wf (k + 1) st' → Sep w.heap.size w7 (diskA d st' :: [rowA 52 1 sw sls.length (flat slC sls), intsAll .u8 L]) → Below w.heap.size w w7 →
      (let i9_30 : Int := IntKind.i64.wrap ((k : Int) + 1); (ls = ls ∧ some d = some d ∧ sw = sw ∧ ∃ k : Nat, i9_30 = k ∧ k ≤ l.length ∧ ∃ st, Held rows st ∧ Wf k st ∧ Sep w.heap.size w7 [rowA 52 1 sw sls.length (flat slC sls), intsAll .u8 L, diskA d st] ∧ Below w.heap.size w w7) ∧ l.length - i9_30.toNat < l.length - (k : Int).toNat) := by
    intro st' w7 hst' hwf' h7 hb7
    rw [inc (by omega)]
    exact ⟨⟨rfl, rfl, rfl, k + 1, rfl, hk', st', hst', hwf', h7.perm (by
      exact ((List.Perm.swap _ _ _).trans ((List.Perm.swap _ _ _).cons _))), hb7⟩, by (try dsimp only); omega⟩
  have hf6 := h6.front 2 rfl
  refine ⟨_, n0, by omega, ?_⟩
  intro t96
  have hK : ∀ w', Below w.heap.size w6 w' → BoolsR w' sk a.keep := fun w' hb => .of_els (hBk.keep BoolC.stab (hB6.trans hb))
  have hkl := hBk.len
  have hbl := hIb.len
  refine cond_c (fun _ => ?_) fun _ => ?_
  · refine (sync_spec hf6 (hwf.d (by omega))).mono ?_
    rintro _ w7 ⟨rfl, h7, hb7⟩
    exact ⟨_, rfl, next _ _ (hst.sync hR) (hwf.sync.mono (by omega)) h7 (hB6.trans hb7)⟩
  intro t100
  refine cond_c (fun _ => ?_) fun _ => ?_
  · refine ⟨_, _, _, nj 4 _ rfl, _, nj 5 _ rfl, ?_⟩
    refine (crash_spec (kl := a.keep) hf6 a.torn (by have := hwf.pend; omega) fun w' hb _ => hK w' hb).mono ?_
    rintro _ w7 ⟨rfl, h7, hb7⟩
    exact ⟨rfl, next _ _ (hst.crash hR _ _) ((hwf.crash _ _).mono (by omega)) h7 (hB6.trans hb7)⟩
  intro t108
  refine cond_c (fun _ => ?_) fun _ => ?_
  · refine (start_spec hf6).mono ?_
    rintro _ w7 ⟨rfl, h7, hb7⟩
    exact ⟨rfl, next _ _ hst.start (hwf.start.mono (by omega)) h7 (hB6.trans hb7)⟩
  intro t112
  refine cond_c (fun _ => ?_) fun _ => ?_
  · refine ⟨_, nj 1 _ rfl, _, _, _, nj 4 _ rfl, _, nj 5 _ rfl, ?_⟩
    refine (trip_spec (kl := a.keep) hf6 a.i a.torn hai (by omega) fun w' hb _ => hK w' hb).mono ?_
    rintro _ w7 ⟨rfl, h7, hb7⟩
    exact ⟨rfl, next _ _ (hst.trip _ _ _) ((hwf.tripD (by omega) _ _).mono (by omega)) h7 (hB6.trans hb7)⟩
  intro t122
  refine cond_c (fun _ => ?_) fun _ => ?_
  · refine ⟨_, nj 1 _ rfl, ?_⟩
    refine (read_spec hf6 a.i).mono ?_
    rintro _ w7 ⟨s7, rfl, _, h7, hb7⟩
    exact ⟨_, _, _, _, rfl, next _ _ hst (hwf.mono (by omega)) h7.drop (hB6.next hb7 (Nat.le_refl _))⟩
  · refine ⟨fun u => u.cell? ((newA w4).add 1) = some (.int .i64 a.i) ∧ u.cell? ((newA w4).add 2) = some (.slice sb.a sb.len sb.cap), ⟨nj 1 _ rfl, nj 2 _ rfl⟩, _, fun u hu => hu.1, by omega, _, _, _, fun u hu => hu.2, ?_⟩
    have hIb6 : Ints .u8 w6.drew sb a.b := (hIb.keep hB6).drew
    refine (sector_spec hIb6).mono ?_
    rintro _ w7 ⟨s7, rfl, ho7, hb7⟩
    obtain ⟨i, hi, hi10, hi20⟩ := mod10u a.i
    refine ⟨_, _, _, rfl, ⟨hb7.here (nj 1 _ rfl), hb7.here (nj 2 _ rfl)⟩, ?_⟩
    rw [hi]
    have h7 := Sep.row hf6.drew ho7 hb7
    refine (write_spec (bs := padI a.b) h7.swap (hwf.d (by omega)) (i : Int) (by rw [padI_len]; omega) fun w' _ hS => hS.rowInts 0 rfl (by rw [padI_len]; omega)).mono ?_
    rintro _ w8 ⟨rfl, h8, hb8⟩
    exact ⟨_, rfl, next _ _ (hst.write hR (by omega) _) (hwf.write _ _) h8.swap.drop (((hB6.trans ((Same.drew w6).below _)).next hb7 (Nat.le_refl _)).trans hb8)⟩

end Go.Proofs.Ytnnpkjhpeefnbaa
