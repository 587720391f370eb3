/-
  Know: a secret that stands beneath nothing that is known but as a key.
-/
import Derived.Test.YtoclhecldmahiaaDoorKnH
set_option linter.unusedVariables false
set_option linter.unusedVariables false
set_option linter.unusedSimpArgs false
namespace Go.Proofs.YtoclhecldmahiaaDoor
open Go.Lf Go.RowKit

/-- numbers that came in -/
structure IntsW (w : World) (s : Sl) (xs : List Int) : Prop where
  i : Ints .i64 w s xs
  wf : ∀ x ∈ xs, -9223372036854775808 ≤ x ∧ x ≤ 9223372036854775807

theorem put_idx {T : List Tm} {t u : Tm} {i : Nat} (h : (put T t).1[i]? = some u) : T[i]? = some u ∨ (i = T.length ∧ u = t) := by
  unfold put at h
  split at h
  · exact .inl h
  · split at h
    · exact .inl h
    · split at h
      · exact .inl h
      · rw [List.getElem?_append] at h
        split at h
        · exact .inl h
        · rename_i hge
          have := (List.getElem?_eq_some_iff.1 h).1
          simp at this
          have e : i = T.length := by omega
          subst e
          simp at h
          exact .inr ⟨rfl, h.symm⟩
theorem put_old {T : List Tm} {t u : Tm} {i : Nat} (h : T[i]? = some u) : (put T t).1[i]? = some u := by
  obtain ⟨r, e, _⟩ := put_grow T t
  rw [e, List.getElem?_append_left (List.getElem?_eq_some_iff.1 h).1]; exact h
theorem put_len1 (T : List Tm) (t : Tm) : (put T t).1.length ≤ T.length + 1 ∧ T.length ≤ (put T t).1.length := by
  obtain ⟨r, e, h⟩ := put_grow T t
  rw [e, List.length_append]; omega

theorem inT_of {T : List Tm} {x : Nat} {t : Tm} (h : T[x]? = some t) : inT T (x : Int) := by
  have := (List.getElem?_eq_some_iff.1 h).1
  unfold inT; omega

section
variable {W w : World} {L R : List Asn} {p : Addr} {T : List Tm}

/-- all of a slice behind new numbers -/
theorem join_at (h : At W w L) (ys : List Int) {s : Sl} {xs : List Int} (hI : ∀ w', At W w' L → Ints .i64 w' s xs) (hl : ys.length + xs.length ≤ 1000000000) :
    ∃ (s' : Sl) (w' : World), (builtin .append #[29, 29] 29 #[] #[.slice (some (newA w)) ys.length ys.length, .slice s.a s.len s.cap]).run Tryd.prog (w.alloc (.cells (ys.map (Value.int .i64)).toArray 3)) = .ok (.value (.slice s'.a s'.len s'.cap)) w' ∧ At W w' (ownA s' (ys ++ xs) :: L) := by
  obtain ⟨i, hi, hz, hsz, hby⟩ := t3
  have hb1 := below_alloc w (.cells (ys.map (Value.int .i64)).toArray 3)
  have ho : OwnI w.heap.size 3 .i64 (w.alloc (.cells (ys.map (Value.int .i64)).toArray 3)) ⟨some (newA w), ys.length, ys.length⟩ ys := made_ints (by unfold maxLen; omega)
  obtain ⟨s', w', hr, ho', hb'⟩ := append_more (ty := 29) Tryd.underlying29 hi hz hsz hby rfl ho hb1.size (hI _ (h.keep hb1)) (by unfold maxLen; omega) (by omega)
  exact ⟨s', w', hr, h.own ho' (hb1.trans hb')⟩

theorem make_row (k : Nat) (kd n : Int) {s : Sl} {xs : List Int} (hk : R[k]? = some (ownA s xs)) (h : At W w (arT p T :: R)) (hn : n ≤ 9223372036854775807) (hx : xs.length ≤ 1000000000) :
    CallsV Tryd.prog n_term_Arena_Make #[.pointer (some p), .int .i64 kd, .int .i64 n, .slice s.a s.len s.cap] w fun v w' => v = .tuple #[.int .i64 (put T ⟨kd, n, xs⟩).2.1, .int .i64 (put T ⟨kd, n, xs⟩).2.2] ∧ At W w' (arT p (put T ⟨kd, n, xs⟩).1 :: R) :=
  make_at (t := ⟨kd, n, xs⟩) h hn fun X w' hs _ => rowNow (k + 1) (by rw [List.getElem?_cons_succ]; exact hk) hs (by show xs.length ≤ _; omega)
end

theorem _root_.Go.Lf.SecT.put {n : Int} {ins : List Nat} {T : List Tm} (h : SecT n ins T) {t : Tm} (ht : t.kind = 3 ∨ t.kind = 4 ∧ t.n < 30 ∨ t.kind = 5 ∨ ((t.kind = 6 ∨ t.kind = 8) ∧ t.args = (0 :: ins).map fun k => ((k : Nat) : Int))) : SecT n ins (put T t).1 :=
  ⟨put_old h.head, fun i u hu h0 => by
    rcases put_idx hu with hu | ⟨_, rfl⟩
    · exact h.kinds i u hu h0
    · exact .inr ht, fun x hx => by obtain ⟨u, hu, hk⟩ := h.insk x hx; exact ⟨u, put_old hu, hk⟩⟩

set_option maxRecDepth 100000 in
theorem secrets_spec {W : World} (hT : PT W.heap.size W) {sw sk : Sl} {ws ks : List Int} (n : Int) (hn : n ≤ 9223372036854775807) (hw : IntsW W sw ws) (hk : IntsW W sk ks) :
    CallsV Tryd.prog n_trystlaw11_KnowSecrets #[.int .i64 n, .slice sw.a sw.len sw.cap, .slice sk.a sk.len sk.cap] W fun v w' => v = .bool true ∧ Below W.heap.size W w' := by
  refine trystlaw11_KnowSecrets.lift ?_
  unfold trystlaw11_KnowSecrets.main
  have hwl := hw.i.len
  have hkl := hk.i.len
  refine cond_d (fun _ => ⟨rfl, Below.refl _ _⟩) fun hn0 => cond_d (fun _ => ⟨rfl, Below.refl _ _⟩) fun hw20 => cond_d (fun _ => ⟨rfl, Below.refl _ _⟩) fun hk30 => ?_
  generalize hRR : (fun (v : Value) (w' : World) => v = .bool true ∧ Below W.heap.size W w') = RR
  unfold trystlaw11_KnowSecrets.c6
  refine (new_at (At.start hT)).mono ?_
  rintro _ w1 ⟨p, rfl, h1⟩
  refine ⟨_, rfl, cond_f' rfl ?_⟩
  refine (mk0 1 n h1 hn).mono ?_
  rintro _ w2 ⟨rfl, h2⟩
  have e0 : errOf [] ⟨1, n, []⟩ = 0 := errOk (by simp) (by simp; omega) (.inl (.inl rfl)) (by simp [least]) (by simp) (by simp)
  rw [put_fresh e0 (by simp) (by simp)] at h2 ⊢
  refine ⟨_, _, rfl, cond_n (fun h => absurd rfl h) fun _ => ?_⟩
  unfold trystlaw11_KnowSecrets.l5
  refine ⟨fun x w' => ∃ (j : Nat) (ins : List Nat) (T : List Tm), x.2 = j ∧ j ≤ ws.length ∧ ins.length = j ∧ T.length ≤ j + 1 ∧ T[0]? = some ⟨1, n, []⟩ ∧ (∀ i t, T[i]? = some t → i ≠ 0 → t.kind = 2) ∧ (∀ x ∈ ins, ∃ t, T[x]? = some t ∧ t.kind = 2) ∧ At W w' [arT p T, ownA x.1 (toI ins)], fun x _ => ws.length - x.2.toNat,
    ⟨0, [], [⟨1, n, []⟩], rfl, Nat.zero_le _, rfl, by simp, rfl, ?_, by simp, ?_⟩, ?_⟩
  · intro i t ht h0
    have := (List.getElem?_eq_some_iff.1 ht).1
    simp at this; omega
  · have := h2.go (h2.s.rowNil 3 1) (Below.refl _ _)
    exact this.swap
  rintro ⟨s3, _⟩ w3 ⟨j, ins, T, rfl, hj, hil, hTl, hT0, hTk, hins, h3⟩
  unfold trystlaw11_KnowSecrets.b5
  refine cond_d (p := ((j : Nat) : Int) < ((sw.len : Nat) : Int)) (fun hlt => ?_) fun hge => ?_
  · have hj' : j < ws.length := by omega
    obtain ⟨q, hq, hc⟩ := (h3.ints hw.i).get (i := (j : Int)) (by omega) hlt
    rw [Int.toNat_natCast, List.getElem?_eq_getElem hj', Option.getD_some] at hc
    have hwf := hw.wf _ (List.getElem_mem hj')
    refine ⟨by omega, hlt, q, hq, _, by rw [Int.toNat_natCast]; exact hc, ?_⟩
    generalize hx : (if (0 : Int) > ws[j] then 0 else ws[j]) = x
    have hx2 : 0 ≤ x ∧ x ≤ 9223372036854775807 := by rw [← hx]; split <;> omega
    refine (mk0 2 x h3 hx2.2).mono ?_
    rintro _ w4 ⟨rfl, h4⟩
    have he : errOf T ⟨2, x, []⟩ = 0 := errOk (by simp) hx2.1 (.inl (.inr (.inl rfl))) (by simp [least]) (by simp) (by simp)
    obtain ⟨k, g1, g2, g3⟩ := putAt he (by omega)
    have gl := put_len1 T ⟨2, x, []⟩
    refine ⟨_, _, rfl, ?_⟩
    rw [g2, g1]
    refine cond_n (fun h => absurd rfl h) fun _ => ?_
    intro w5
    obtain ⟨s6, w6, hr6, h6⟩ := more_at 1 rfl h4 (k : Int) (by rw [toI_len]; omega)
    refine ⟨_, _, _, _, hr6, ?_⟩
    dsimp only
    rw [inc (by omega)]
    refine ⟨⟨rfl, rfl, rfl, rfl, j + 1, ins ++ [k], (put T ⟨2, x, []⟩).1, rfl, by omega, by simp [hil], by omega, put_old hT0, fun i t ht h0 => ?_, fun y hy => ?_, ?_⟩, by (try dsimp only); omega⟩
    · rcases put_idx ht with ht | ⟨_, rfl⟩
      · exact hTk i t ht h0
      · rfl
    · rw [List.mem_append, List.mem_singleton] at hy
      rcases hy with hy | rfl
      · obtain ⟨t, ht, h2⟩ := hins y hy
        exact ⟨t, put_old ht, h2⟩
      · exact ⟨_, g3, rfl⟩
    · rw [toI_app]; exact h6
  · have hjn : j = ws.length := by omega
    unfold trystlaw11_KnowSecrets.c4 trystlaw11_KnowSecrets.l2
    have hsec : SecT n ins T := ⟨hT0, fun i t ht h0 => .inl (hTk i t ht h0), hins⟩
    refine ⟨fun x w' => ∃ (j : Nat) (sm : List Nat) (T : List Tm), x.2 = j ∧ j ≤ ks.length ∧ sm.length = j ∧ T.length ≤ 21 + j ∧ SecT n ins T ∧ (∀ x ∈ sm, ∃ t, T[x]? = some t ∧ t.kind ≠ 1) ∧ At W w' [arT p T, ownA x.1 (toI sm), ownA s3 (toI ins)], fun x _ => ks.length - x.2.toNat,
      ⟨0, [], T, rfl, Nat.zero_le _, rfl, by omega, hsec, by simp, (h3.go (h3.s.rowNil 3 1) (Below.refl _ _)).swap⟩, ?_⟩
    clear h3 hsec hT0 hTk hins hTl
    rintro ⟨s4, _⟩ w4 ⟨i, sm, T, rfl, hi, hsl, hTl, hsec, hsm, h4⟩
    have h0T : inT T 0 := inT_of hsec.head
    unfold trystlaw11_KnowSecrets.b2
    refine cond_d (p := ((i : Nat) : Int) < ((sk.len : Nat) : Int)) (fun hlt => ?_) fun hge => ?_
    · have hi' : i < ks.length := by omega
      intro w5
      obtain ⟨s6, w6, hr6, h6⟩ := join_at h4 [0] (s := s3) (xs := toI ins) (fun w' hs => rowNow 2 rfl hs.s (by rw [toI_len]; omega)) (by rw [toI_len]; simp; omega)
      obtain ⟨q, hq, hc⟩ := (h6.ints hk.i).get (i := (i : Int)) (by omega) hlt
      refine ⟨_, _, _, _, hr6, by omega, hlt, q, hq, _, hc, by decide, ?_⟩
      have eargs : [0] ++ toI ins = (0 :: ins).map fun k => ((k : Nat) : Int) := rfl
      rw [eargs] at h6
      have hinr : ∀ y ∈ (0 :: ins).map fun k => ((k : Nat) : Int), inT T y := by
        intro y hy
        obtain ⟨z, hz, rfl⟩ := List.mem_map.1 hy
        rcases List.mem_cons.1 hz with rfl | hz
        · exact h0T
        · obtain ⟨t, ht, _⟩ := hsec.insk z hz; exact inT_of ht
      have hargl : ((0 :: ins).map fun k => ((k : Nat) : Int)).length = ins.length + 1 := by simp
      have c3 : ∀ (t : Tm) w', errOf T t = 0 → (t.kind = 3 ∨ t.kind = 4 ∧ t.n < 30 ∨ t.kind = 5 ∨ ((t.kind = 6 ∨ t.kind = 8) ∧ t.args = (0 :: ins).map fun k => ((k : Nat) : Int))) → At W w' [arT p (put T t).1, ownA s4 (toI sm), ownA s3 (toI ins)] →
          trystlaw11_KnowSecrets.c3 RR (fun kinds2' a7' s8' in10' some14' i15' w' => (kinds2' = sk ∧ a7' = some p ∧ s8' = 0 ∧ in10' = s3 ∧ ∃ (j : Nat) (sm : List Nat) (T : List Tm), i15' = j ∧ j ≤ ks.length ∧ sm.length = j ∧ T.length ≤ 21 + j ∧ SecT n ins T ∧ (∀ x ∈ sm, ∃ t, T[x]? = some t ∧ t.kind ≠ 1) ∧ At W w' [arT p T, ownA some14' (toI sm), ownA s3 (toI ins)]) ∧ ks.length - i15'.toNat < ks.length - ((i : Nat) : Int).toNat)
            sk (some p) 0 s3 s4 (i : Int) (put T t).2.1 (put T t).2.2 w' := by
        intro t w' he ht h7
        unfold trystlaw11_KnowSecrets.c3
        obtain ⟨k, g1, g2, g3⟩ := putAt he (by omega)
        have gl := put_len1 T t
        rw [g1, g2]
        refine cond_n (fun h => absurd rfl h) fun _ => ?_
        intro w9
        obtain ⟨s10, w10, hr10, h10⟩ := more_at 1 rfl h7 (k : Int) (by rw [toI_len]; omega)
        refine ⟨_, _, _, _, hr10, ?_⟩
        dsimp only
        rw [inc (by omega)]
        refine ⟨⟨rfl, rfl, rfl, rfl, i + 1, sm ++ [k], (put T t).1, rfl, by omega, by simp [hsl], by omega, hsec.put ht, fun y hy => ?_, ?_⟩, by omega⟩
        · rw [List.mem_append, List.mem_singleton] at hy
          rcases hy with hy | rfl
          · obtain ⟨u, hu, h2⟩ := hsm y hy
            exact ⟨u, put_old hu, h2⟩
          · exact ⟨t, g3, by omega⟩
        · rw [toI_app]; exact h10
      have h6a : At W w6 [arT p T, ownA s6 ((0 :: ins).map fun k => ((k : Nat) : Int)), ownA s4 (toI sm), ownA s3 (toI ins)] := h6.swap
      have h6b : At W w6 [arT p T, ownA s4 (toI sm), ownA s3 (toI ins)] := h6.drop
      have out1 : ∀ {w' : World} {T' : List Tm}, At W w' [arT p T', ownA s6 ((0 :: ins).map fun k => ((k : Nat) : Int)), ownA s4 (toI sm), ownA s3 (toI ins)] → At W w' [arT p T', ownA s4 (toI sm), ownA s3 (toI ins)] := fun h => h.swap.drop
      have m4 : ∀ k : Int, (k = 3 ∨ k = 6 ∨ k = 8) → errOf T ⟨k, 0, (0 :: ins).map fun k => ((k : Nat) : Int)⟩ = 0 := fun k hk => by
        refine errOk (by simp only; omega) (by simp) (.inr rfl) ?_ ?_ hinr
        · rw [hargl]; rcases hk with rfl | rfl | rfl <;> simp [least]
        · rw [hargl]; rcases hk with rfl | rfl | rfl <;> simp [mostOf] <;> omega
      refine cond_e (fun _ => ?_) fun _ => ?_
      · refine (make_row 0 3 0 rfl h6a (by omega) (by rw [hargl]; omega)).mono ?_
        rintro _ w' ⟨rfl, h7⟩
        exact ⟨_, _, rfl, c3 _ w' (m4 3 (.inl rfl)) (.inl rfl) (out1 h7)⟩
      refine cond_e (fun _ => ?_) fun _ => ?_
      · intro w14
        refine (mk 4 (i : Int) [0] h6b (by omega) (by simp)).mono ?_
        rintro _ w' ⟨rfl, h7⟩
        exact ⟨_, _, rfl, c3 _ w' (errOk (by simp) (by simp) (.inl (.inr (.inr rfl))) (by simp [least]) (by simp [mostOf]) (by simpa using h0T)) (.inr (.inl ⟨rfl, by show ((i : Nat) : Int) < 30; omega⟩)) h7⟩
      refine cond_e (fun _ => ?_) fun _ => ?_
      · intro w14
        refine (mk 5 0 [0] h6b (by omega) (by simp)).mono ?_
        rintro _ w' ⟨rfl, h7⟩
        exact ⟨_, _, rfl, c3 _ w' (errOk (by simp) (by simp) (.inr rfl) (by simp [least]) (by simp [mostOf]) (by simpa using h0T)) (.inr (.inr (.inl rfl))) h7⟩
      refine cond_e (fun _ => ?_) fun _ => ?_
      · refine (make_row 0 6 0 rfl h6a (by omega) (by rw [hargl]; omega)).mono ?_
        rintro _ w' ⟨rfl, h7⟩
        exact ⟨_, _, rfl, c3 _ w' (m4 6 (.inr (.inl rfl))) (.inr (.inr (.inr ⟨.inl rfl, rfl⟩))) (out1 h7)⟩
      · refine (make_row 0 8 0 rfl h6a (by omega) (by rw [hargl]; omega)).mono ?_
        rintro _ w' ⟨rfl, h7⟩
        exact ⟨_, _, rfl, c3 _ w' (m4 8 (.inr (.inr rfl))) (.inr (.inr (.inr ⟨.inr rfl, rfl⟩))) (out1 h7)⟩
    · unfold trystlaw11_KnowSecrets.c1
      intro w5
      refine (mk 4 1048576 [0] h4 (by omega) (by simp)).mono ?_
      rintro _ w6 ⟨rfl, h6⟩
      have hnew : ∀ u ∈ T, u ≠ ⟨4, 1048576, [0]⟩ := by
        rintro u hu rfl
        obtain ⟨j, hj, he⟩ := List.mem_iff_getElem.1 hu
        have hu2 : T[j]? = some ⟨4, 1048576, [0]⟩ := by rw [List.getElem?_eq_getElem hj, he]
        by_cases h0 : j = 0
        · subst h0; rw [hsec.head] at hu2; simp at hu2
        · have := hsec.kinds j _ hu2 h0
          simp at this
      rw [put_fresh (errOk (by simp) (by simp) (.inl (.inr (.inr rfl))) (by simp [least]) (by simp [mostOf]) (by simpa using h0T)) hnew (by omega)] at h6 ⊢
      have h6 : At W w6 [arT p (T ++ [⟨4, 1048576, [0]⟩]), ownA s4 (toI sm), ownA s3 (toI ins)] := h6
      refine ⟨_, _, rfl, cond_n (fun h => absurd rfl h) fun _ => ?_⟩
      have hlen0 : 0 < T.length := by unfold inT at h0T; omega
      have hsafe : ∀ i, Kn (T ++ [⟨4, 1048576, [0]⟩]) (fun i => (i : Int) ∈ toI sm) i → ¬ (i = 0 ∨ i = T.length) := secret_safe hsec fun i hi => by
        unfold toI at hi
        obtain ⟨z, hz, e⟩ := List.mem_map.1 hi
        have e : z = i := by omega
        subst e
        exact hsm z hz
      have hrow : ∀ (L : List Asn) (w' : World) (T' : List Tm), At W w' (L ++ [ownA s4 (toI sm), ownA s3 (toI ins)]) → Ints .i64 w' s4 (toI sm) := fun L w' T' hs => rowNow 0 rfl hs.dropL.s (by rw [toI_len]; omega)
      have hall : ∀ x ∈ toI sm, inT (T ++ [⟨4, 1048576, [0]⟩]) x := by
        intro x hx
        unfold toI at hx
        obtain ⟨z, hz, rfl⟩ := List.mem_map.1 hx
        obtain ⟨t, ht, _⟩ := hsm z hz
        have := (List.getElem?_eq_some_iff.1 ht).1
        unfold inT; simp; omega
      have in0 : inT (T ++ [⟨4, 1048576, [0]⟩]) 0 := by unfold inT; rw [List.length_append, List.length_singleton]; omega
      have ind : inT (T ++ [⟨4, 1048576, [0]⟩]) (T.length : Int) := by unfold inT; rw [List.length_append, List.length_singleton]; omega
      refine (is_at 0 h6 (by rw [toI_len]; omega) fun L w' hs => hrow L w' T hs).mono ?_
      rintro _ w7 ⟨x, rfl, h7, hx⟩
      rw [if_pos ⟨hall, in0⟩]
      have ex : x = false := by
        cases x with
        | false => rfl
        | true => exact absurd (.inl rfl) (hsafe 0 (hx.1 rfl).2.2)
      subst ex
      refine ⟨_, _, rfl, (is_at (T.length : Int) h7 (by rw [toI_len]; omega) fun L w' hs => hrow L w' T hs).mono ?_⟩
      rintro _ w8 ⟨y, rfl, h8, hy⟩
      rw [if_pos ⟨hall, ind⟩]
      have ey : y = false := by
        cases y with
        | false => rfl
        | true => exact absurd (.inr (Int.toNat_natCast _)) (hsafe _ (hy.1 rfl).2.2)
      subst ey
      refine ⟨_, _, rfl, ?_⟩
      intro w9
      obtain ⟨s10, w10, hr10, h10⟩ := more_at 1 rfl h8 0 (by rw [toI_len]; omega)
      have h10 : At W w10 [arT p (T ++ [⟨4, 1048576, [0]⟩]), ownA s10 (toI sm ++ [0]), ownA s3 (toI ins)] := h10
      refine ⟨_, _, _, _, hr10, (is_at (T.length : Int) h10 (xs := toI sm ++ [0]) (s := s10) (by simp [toI_len]; omega) fun L w' hs => rowNow 0 rfl hs.dropL.s (by simp [toI_len]; omega)).mono ?_⟩
      rintro _ w11 ⟨z, rfl, h11, hz⟩
      have hall2 : ∀ x ∈ toI sm ++ [0], inT (T ++ [⟨4, 1048576, [0]⟩]) x := by
        intro x hx
        rw [List.mem_append, List.mem_singleton] at hx
        rcases hx with hx | rfl
        · exact hall x hx
        · exact in0
      have ez : z = true := by
        rw [hz]
        refine ⟨hall2, ind, ?_⟩
        rw [Int.toNat_natCast]
        have hd : (T ++ [(⟨4, 1048576, [0]⟩ : Tm)])[T.length]? = some ⟨4, 1048576, [0]⟩ := by simp
        refine .made (by simp) (by rw [kd_of hd]; decide) fun x hx => ?_
        rw [ar_of hd] at hx
        simp at hx
        subst hx
        exact .start (by simp)
      subst ez
      rw [if_pos ⟨hall2, ind⟩]
      refine ⟨_, _, rfl, cond_t rfl (cond_t rfl (cond_t rfl (cond_t rfl (cond_t rfl (cond_t rfl ?_)))))⟩
      refine (wakes11 h11).mono ?_
      rintro _ w12 ⟨rfl, h12⟩
      refine ⟨_, rfl, ?_⟩
      rw [← hRR]
      exact ⟨rfl, h12.b⟩

end Go.Proofs.YtoclhecldmahiaaDoor
