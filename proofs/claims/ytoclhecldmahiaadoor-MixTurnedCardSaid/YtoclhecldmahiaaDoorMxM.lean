/-
  Rounds of servers: the contract of a round.
-/
import Derived.Test.YtoclhecldmahiaaDoorMxK
set_option linter.unusedVariables false
set_option linter.unusedVariables false
set_option linter.unusedSimpArgs false
namespace Go.Proofs.YtoclhecldmahiaaDoor
open Go.Lf Go.RowKit

theorem set_at_end {A : List Int} {m k : Nat} (hm : 0 < m) (hk : A.length = k) (y : Int) : (A ++ List.replicate m 0).set k y = (A ++ [y]) ++ List.replicate (m - 1) 0 := by
  obtain ⟨m', rfl⟩ : ∃ m', m = m' + 1 := ⟨m - 1, by omega⟩
  subst hk
  rw [List.set_append, if_neg (by omega), Nat.sub_self, List.replicate_succ, List.set_cons_zero, List.append_assoc]
  rfl

theorem permK {K S R : List Asn} {A : Asn} : (K ++ (A :: (S ++ R))).Perm (A :: (S ++ (K ++ R))) :=
  List.perm_middle.trans (List.Perm.cons _ (by rw [← List.append_assoc, ← List.append_assoc]; exact List.perm_append_comm.append_right _))

section
variable {W w w' : World} {L R : List Asn} {x p : Addr} {T : List Tm} {nw : Int} {sec sp sr : Sl} {ss : Nat → Sl} {st : MxS} {Z : List (Sl × List Int)} {RR : Value → World → Prop} {on kk sl sb : Sl} {s k : Nat} {secs l : List Int}

theorem At.poke (h : At W w L) (k : Nat) {q : Addr} {cs : List Value} (hk : L[k]? = some (boxA q cs)) {j : Nat} (hj : j < cs.length) (u : Value) : Wr w (q.add j) ∧ At W (w.setCell (q.add j) u) (L.set k (boxA q (cs.set j u))) :=
  ⟨h.s.wr k hk hj, h.go2 (h.s.set k hk hj u)⟩

theorem keepS {P : World → Prop} (hX : ∀ L w', At W w' (L ++ R) → P w') {X : Asn} {S K : List Asn} (h : At W w' (X :: (S ++ (K ++ R)))) : P w' := hX (X :: (S ++ K)) w' (by simpa [List.append_assoc] using h)

theorem round_c6 {K O : List Int} {N4 : Option Addr → Int → Sl → Sl → Sl → Int → Int → World → Prop} {t54 : Sl} {t55 t56 pk : Int} (h : At W w (arT p T :: (srvL x p nw sec sp sr ss st ++ (ownA kk K :: ownA on O :: R))))
    (hP : ∀ L w', At W w' (L ++ R) → Rw w' sp Z) (hs : s < Z.length) (hk : k < (rowP Z s).length) (hkK : k < K.length) (hpk : (rowP Z s)[k]?.getD 0 = pk) (h0 : 0 ≤ pk) (h1 : pk.toNat < O.length)
    (hN : ∀ w', At W w' (arT p T :: (srvL x p nw sec sp sr ss st ++ (ownA kk (K.set k (-1)) :: ownA on (O.set pk.toNat nw) :: R))) → N4 (some x) s on kk t54 t55 (IntKind.i64.wrap (t56 + 1)) w') : mix_servers_round.c6 RR N4 (some x) s on kk k t54 t55 t56 w := by
  unfold mix_servers_round.c6
  have hd := h.drew
  have hrw := keepS (K := [_, _]) hP hd
  have hrl := hrw.len
  obtain ⟨q, qs, hq, hc, hl, hqs, hcs⟩ := hrw.at_ hs hk
  rw [hpk] at hcs
  have hol := hd.numLen 7 rfl
  have hkl := hd.numLen 6 rfl
  obtain ⟨qo, hqo, _⟩ := hd.num 7 rfl h1
  obtain ⟨wr1, h2⟩ := hd.setNum 7 rfl hqo h1 nw
  have h2 : At W (w.drew.setCell (qo.add pk.toNat) (.int .i64 nw)) (arT p T :: (srvL x p nw sec sp sr ss st ++ (ownA kk K :: ownA on (O.set pk.toNat nw) :: R))) := h2
  obtain ⟨qk, hqk, _⟩ := h2.num 6 rfl hkK
  obtain ⟨wr2, h3⟩ := h2.setNum 6 rfl hqk hkK (-1)
  have h3 : At W ((w.drew.setCell (qo.add pk.toNat) (.int .i64 nw)).setCell (qk.add k) (.int .i64 (-1))) (arT p T :: (srvL x p nw sec sp sr ss st ++ (ownA kk (K.set k (-1)) :: ownA on (O.set pk.toNat nw) :: R))) := h3
  refine ⟨fun y => y = w.drew, rfl, x, rfl, _, _, _, fun y hy => by rw [hy]; exact hd.s.cell 1 rfl 6 rfl, by omega, by omega, q, hq, _, _, _, fun y hy => by rw [hy, Int.toNat_natCast]; exact hc, by omega, by omega, qs, hqs, _, fun y hy => by rw [hy, Int.toNat_natCast]; exact hcs,
    x, rfl, _, fun y hy => by rw [hy]; exact hd.s.cell 1 rfl 7 rfl, h0, by omega, qo, hqo, wr1, by omega, by omega, qk, hqk, by rw [Int.toNat_natCast]; exact wr2, ?_⟩
  rw [Int.toNat_natCast]
  exact hN _ h3

theorem round_c5 {K O : List Int} {N4 : Option Addr → Int → Sl → Sl → Sl → Int → Int → World → Prop} {t54 : Sl} {t55 t56 pk t inner key : Int} (h : At W w (arT p T :: (srvL x p nw sec sp sr ss st ++ (ownA kk K :: ownA on O :: R))))
    (hP : ∀ L w', At W w' (L ++ R) → Rw w' sp Z) (hs : s < Z.length) (hs3 : s < 3) (hk : k < (rowP Z s).length) (hkK : k < K.length) (hpk : (rowP Z s)[k]?.getD 0 = pk) (h0 : 0 ≤ pk) (h1 : pk.toNat < O.length) (hse : (st.seen s).length ≤ 10000000)
    (hN : ∀ s' w', At W w' (arT p T :: (srvL x p nw sec sp sr (fun j => if j = s then s' else ss j) (seenAt st s (st.seen s ++ [t])) ++ (ownA kk (K.set k key) :: ownA on (O.set pk.toNat inner) :: R))) → N4 (some x) s on kk t54 t55 (IntKind.i64.wrap (t56 + 1)) w') : mix_servers_round.c5 RR N4 (some x) s on kk k t inner key t54 t55 t56 w := by
  unfold mix_servers_round.c5
  have hd := h.drew
  obtain ⟨s', w6, run, wr, h7⟩ := seen_more hd hs3 t hse
  rcases seen_cell hd hs3 with ⟨hc0, _⟩ | hno
  · generalize hw7 : w6.setCell (((x.add 1).add 1).add s) (.slice s'.a s'.len s'.cap) = w7 at h7
    have hrw := keepS (K := [_, _]) hP h7
    have hrl := hrw.len
    obtain ⟨q, qs, hq, hc, hl, hqs, hcs⟩ := hrw.at_ hs hk
    rw [hpk] at hcs
    have hol := h7.numLen 7 rfl
    have hkl := h7.numLen 6 rfl
    obtain ⟨qo, hqo, _⟩ := h7.num 7 rfl h1
    obtain ⟨wr1, h2⟩ := h7.setNum 7 rfl hqo h1 inner
    have h2 : At W (w7.setCell (qo.add pk.toNat) (.int .i64 inner)) (arT p T :: (srvL x p nw sec sp sr (fun j => if j = s then s' else ss j) (seenAt st s (st.seen s ++ [t])) ++ (ownA kk K :: ownA on (O.set pk.toNat inner) :: R))) := h2
    obtain ⟨qk, hqk, _⟩ := h2.num 6 rfl hkK
    obtain ⟨wr2, h3⟩ := h2.setNum 6 rfl hqk hkK key
    have h3 : At W ((w7.setCell (qo.add pk.toNat) (.int .i64 inner)).setCell (qk.add k) (.int .i64 key)) (arT p T :: (srvL x p nw sec sp sr (fun j => if j = s then s' else ss j) (seenAt st s (st.seen s ++ [t])) ++ (ownA kk (K.set k key) :: ownA on (O.set pk.toNat inner) :: R))) := h3
    refine ⟨fun y => y.cell? (((x.add 1).add 1).add s) = some (.slice (ss s).a (ss s).len (ss s).cap), hc0, x, rfl, by omega, by omega, _, _, _, fun y hy => by rw [Int.toNat_natCast]; exact hy, x, rfl, Below.here (below_alloc _ _) hc0, s'.a, s'.len, s'.cap, w6, run, by omega, by omega, by rw [Int.toNat_natCast]; exact wr, ?_⟩
    rw [Int.toNat_natCast, hw7]
    refine ⟨x, rfl, _, _, _, h7.s.cell 1 rfl 6 rfl, by omega, by omega, q, hq, _, _, _, hc, by omega, by omega, qs, hqs, _, by rw [Int.toNat_natCast]; exact hcs, h0, by omega, qo, hqo, wr1, by omega, by omega, qk, hqk, by rw [Int.toNat_natCast]; exact wr2, ?_⟩
    rw [Int.toNat_natCast]
    exact hN _ _ h3
  · exact absurd (by omega) hno

/-- what a server opens and places -/
theorem round_l4 (hin : RdIn T nw secs (rowP Z) st l) (hs : s < 3) (hZ : Z.length = 3) (hse : (st.seen s).length ≤ 1000000) (h : At W w (arT p T :: (srvL x p nw sec sp sr ss st ++ (ownA kk (List.replicate l.length 0) :: ownA on (List.replicate l.length 0) :: R))))
    (hS : ∀ L w', At W w' (L ++ R) → Ints .i64 w' sec secs) (hL : ∀ L w', At W w' (L ++ R) → Ints .i64 w' sl l) (hP : ∀ L w', At W w' (L ++ R) → Rw w' sp Z)
    (next : ∀ ss' w', At W w' (arT p T :: (srvL x p nw sec sp sr ss' (seenAt st s (openS T (secs[s]?.getD 0) (st.seen s) l l.length).2) ++ (ownA kk ((openS T (secs[s]?.getD 0) (st.seen s) l l.length).1.map keyO) :: ownA on (onS T (secs[s]?.getD 0) nw (st.seen s) l (rowP Z s) l.length) :: R))) → mix_servers_round.c3 RR (some x) s on kk w') :
    mix_servers_round.l4 RR (some x) s on kk sl ((sl.len : Nat) : Int) 0 w := by
  have hperm := hin.permin s hs
  unfold mix_servers_round.l4
  refine ⟨fun t w' => ∃ (k : Nat) (ss' : Nat → Sl), t = k ∧ k ≤ l.length ∧ At W w' (arT p T :: (srvL x p nw sec sp sr ss' (seenAt st s (openS T (secs[s]?.getD 0) (st.seen s) l k).2) ++ (ownA kk ((openS T (secs[s]?.getD 0) (st.seen s) l k).1.map keyO ++ List.replicate (l.length - k) 0) :: ownA on (onS T (secs[s]?.getD 0) nw (st.seen s) l (rowP Z s) k) :: R))),
    fun t _ => l.length - t.toNat, ⟨0, ss, rfl, Nat.zero_le _, ?_⟩, ?_⟩
  · have e : srvL x p nw sec sp sr ss (seenAt st s (openS T (secs[s]?.getD 0) (st.seen s) l 0).2) = srvL x p nw sec sp sr ss st := srvL_eq rfl (fun j _ => by show (if j = s then st.seen s else st.seen j) = st.seen j; split <;> simp_all) (fun _ _ => rfl)
    rw [e]
    exact h
  clear h
  rintro _ w1 ⟨k, ss', rfl, hk, h1⟩
  unfold mix_servers_round.b4
  have hlen : sl.len = l.length := (keepS (K := [_, _]) hL h1).len
  refine cond_d (p := ((k : Nat) : Int) < ((sl.len : Nat) : Int)) (fun hlt => ?_) fun hge => ?_
  · have hkl : k < l.length := by omega
    obtain ⟨q, hq, hc⟩ := (keepS (K := [_, _]) hL h1).get (i := (k : Int)) (by omega) (by omega)
    have hd := h1.drew
    have hsI := keepS (K := [_, _]) hS hd
    have hsl := hsI.len
    have hs3 := hin.secl
    obtain ⟨qc, hqc, hcc⟩ := hsI.get (i := (s : Int)) (by omega) (by omega)
    rw [Int.toNat_natCast] at hc hcc
    have ht : inT T (l[k]?.getD 0) := hin.lin _ (getD_mem hkl)
    have hpl := hperm.1
    have hpk := hperm.2.1 _ (getD_mem (l := rowP Z s) (k := k) (by omega))
    have hol := onS_len (T := T) (sec := secs[s]?.getD 0) (nw := nw) (seen := st.seen s) (l := l) (perm := rowP Z s) k
    have hopl := openS_len (T := T) (sec := secs[s]?.getD 0) (seen := st.seen s) (l := l) k
    have hops := openS_seen (T := T) (sec := secs[s]?.getD 0) (seen := st.seen s) (l := l) k
    have hfew := hin.few
    have hKl : ((openS T (secs[s]?.getD 0) (st.seen s) l k).1.map keyO ++ List.replicate (l.length - k) 0).length = l.length := by rw [List.length_append, List.length_map, List.length_replicate]; omega
    have hset : ∀ y : Int, ((openS T (secs[s]?.getD 0) (st.seen s) l k).1.map keyO ++ List.replicate (l.length - k) 0).set k y = ((openS T (secs[s]?.getD 0) (st.seen s) l k).1.map keyO ++ [y]) ++ List.replicate (l.length - (k + 1)) 0 := by
      intro y
      rw [set_at_end (by omega) (by rw [List.length_map]; exact hopl), show l.length - k - 1 = l.length - (k + 1) by omega]
    have hse1 : (seenAt st s (openS T (secs[s]?.getD 0) (st.seen s) l k).2).seen s = (openS T (secs[s]?.getD 0) (st.seen s) l k).2 := if_pos rfl
    refine ⟨by omega, hlt, q, hq, _, by rw [Int.toNat_natCast]; exact hc, fun y => y = w1.drew, rfl, x, rfl, _, fun y hy => by rw [hy]; exact hd.s.cell0 1 rfl rfl, x, rfl, _, _, _, fun y hy => by rw [hy]; exact hd.s.cell 1 rfl 5 rfl, by omega, by omega, qc, hqc, _, fun y hy => by rw [hy, Int.toNat_natCast]; exact hcc, ?_⟩
    refine (peel_at hd (secs[s]?.getD 0) (l[k]?.getD 0)).mono ?_
    rintro _ w2 ⟨rfl, h2⟩
    -- what it will not open
    have bad : ∀ w', At W w' (arT p T :: (srvL x p nw sec sp sr ss' (seenAt st s (openS T (secs[s]?.getD 0) (st.seen s) l k).2) ++ (ownA kk ((openS T (secs[s]?.getD 0) (st.seen s) l k).1.map keyO ++ List.replicate (l.length - k) 0) :: ownA on (onS T (secs[s]?.getD 0) nw (st.seen s) l (rowP Z s) k) :: R))) →
        stepS T (secs[s]?.getD 0) (openS T (secs[s]?.getD 0) (st.seen s) l k).2 (l[k]?.getD 0) = (.none, (openS T (secs[s]?.getD 0) (st.seen s) l k).2) →
        mix_servers_round.c6 RR (fun x0' s1' on11' keys12' t54' t55' t56' w' => (x0' = some x ∧ s1' = (s : Int) ∧ on11' = on ∧ keys12' = kk ∧ t54' = sl ∧ t55' = ((sl.len : Nat) : Int) ∧ ∃ (k : Nat) (ss' : Nat → Sl), t56' = k ∧ k ≤ l.length ∧ At W w' (arT p T :: (srvL x p nw sec sp sr ss' (seenAt st s (openS T (secs[s]?.getD 0) (st.seen s) l k).2) ++ (ownA kk ((openS T (secs[s]?.getD 0) (st.seen s) l k).1.map keyO ++ List.replicate (l.length - k) 0) :: ownA on (onS T (secs[s]?.getD 0) nw (st.seen s) l (rowP Z s) k) :: R)))) ∧
          l.length - t56'.toNat < l.length - ((k : Nat) : Int).toNat) (some x) s on kk k sl ((sl.len : Nat) : Int) k w' := by
      intro w' h' hst
      refine round_c6 h' hP (by omega) (by omega) (by omega) rfl hpk.1 (by omega) fun w3 h3 => ?_
      rw [inc (by omega)]
      refine ⟨⟨rfl, rfl, rfl, rfl, rfl, rfl, k + 1, ss', rfl, by omega, ?_⟩, by omega⟩
      have e1 : openS T (secs[s]?.getD 0) (st.seen s) l (k + 1) = ((openS T (secs[s]?.getD 0) (st.seen s) l k).1 ++ [.none], (openS T (secs[s]?.getD 0) (st.seen s) l k).2) := by
        show (_, _) = _; rw [hst]
      have e2 : onS T (secs[s]?.getD 0) nw (st.seen s) l (rowP Z s) (k + 1) = (onS T (secs[s]?.getD 0) nw (st.seen s) l (rowP Z s) k).set ((rowP Z s)[k]?.getD 0).toNat nw := by
        show (onS T (secs[s]?.getD 0) nw (st.seen s) l (rowP Z s) k).set _ _ = _; rw [hst]; rfl
      rw [e1, e2]
      rw [hset] at h3
      rw [List.map_append]
      exact h3
    refine ⟨_, _, _, rfl, cond_n (fun hne => ?_) fun he => ?_⟩
    · refine bad w2 h2 ?_
      unfold stepS; rw [if_pos (.inl hne)]
    · rcases seen_cell h2 hs with ⟨hcs, hIs⟩ | hno
      · rw [hse1] at hIs
        refine ⟨x, rfl, by omega, by omega, _, _, _, by rw [Int.toNat_natCast]; exact hcs, (contains_spec (s := ss' s) hIs (l[k]?.getD 0)).mono ?_⟩
        rintro _ _ ⟨rfl, rfl⟩
        refine ⟨_, rfl, cond_c (fun hin2 => ?_) fun hout => ?_⟩
        · have hin2 := of_decide_eq_true hin2
          refine bad w2 h2 ?_
          unfold stepS; rw [if_pos (.inr hin2)]
        · have hout := of_decide_eq_false hout
          have hst : stepS T (secs[s]?.getD 0) (openS T (secs[s]?.getD 0) (st.seen s) l k).2 (l[k]?.getD 0) = (.some ((peelT T (secs[s]?.getD 0) (l[k]?.getD 0)).1, (peelT T (secs[s]?.getD 0) (l[k]?.getD 0)).2.1), (openS T (secs[s]?.getD 0) (st.seen s) l k).2 ++ [l[k]?.getD 0]) := by
            unfold stepS; rw [if_neg (fun hh => hh.elim (fun hh => hh he) hout)]
          refine round_c5 h2 hP (by omega) hs (by omega) (by omega) rfl hpk.1 (by omega) (by rw [hse1]; omega) fun s' w3 h3 => ?_
          rw [inc (by omega)]
          refine ⟨⟨rfl, rfl, rfl, rfl, rfl, rfl, k + 1, fun j => if j = s then s' else ss' j, rfl, by omega, ?_⟩, by (try dsimp only); omega⟩
          have e1 : openS T (secs[s]?.getD 0) (st.seen s) l (k + 1) = ((openS T (secs[s]?.getD 0) (st.seen s) l k).1 ++ [.some ((peelT T (secs[s]?.getD 0) (l[k]?.getD 0)).1, (peelT T (secs[s]?.getD 0) (l[k]?.getD 0)).2.1)], (openS T (secs[s]?.getD 0) (st.seen s) l k).2 ++ [l[k]?.getD 0]) := by
            show (_, _) = _; rw [hst]
          have e2 : onS T (secs[s]?.getD 0) nw (st.seen s) l (rowP Z s) (k + 1) = (onS T (secs[s]?.getD 0) nw (st.seen s) l (rowP Z s) k).set ((rowP Z s)[k]?.getD 0).toNat (peelT T (secs[s]?.getD 0) (l[k]?.getD 0)).1 := by
            show (onS T (secs[s]?.getD 0) nw (st.seen s) l (rowP Z s) k).set _ _ = _; rw [hst]; rfl
          have e3 : srvL x p nw sec sp sr (fun j => if j = s then s' else ss' j) (seenAt (seenAt st s (openS T (secs[s]?.getD 0) (st.seen s) l k).2) s ((seenAt st s (openS T (secs[s]?.getD 0) (st.seen s) l k).2).seen s ++ [l[k]?.getD 0])) =
              srvL x p nw sec sp sr (fun j => if j = s then s' else ss' j) (seenAt st s ((openS T (secs[s]?.getD 0) (st.seen s) l k).2 ++ [l[k]?.getD 0])) :=
            srvL_eq rfl (fun j _ => by rw [hse1]; show (if j = s then _ else if j = s then _ else _) = (if j = s then _ else _); split <;> rfl) (fun _ _ => rfl)
          rw [e1, e2]
          rw [hset, e3] at h3
          rw [List.map_append]
          exact h3
      · exact absurd (by rw [hse1]; omega) hno
  · have hkl : k = l.length := by omega
    subst hkl
    rw [Nat.sub_self, List.replicate_zero, List.append_nil] at h1
    exact next ss' w1 h1

/-- what a server seals back -/
theorem round_l1 {T1 : List Tm} {keys back : List Int} (hl : T1.length ≤ 900000) (hn : inT T1 nw) (hk : ∀ x ∈ keys, 0 ≤ x → inT T1 x) (hb : ∀ x ∈ back, inT T1 x) (hp : ∀ x ∈ rowP Z s, 0 ≤ x ∧ x < (back.length : Nat)) (hpl : (rowP Z s).length = keys.length) (hkl : keys.length ≤ 1000) (hbl : back.length ≤ 1000) (hs : s < Z.length)
    (h : At W w (arT p T1 :: (srvL x p nw sec sp sr ss st ++ (ownA sb back :: ownA kk keys :: R)))) (hP : ∀ L w', At W w' (L ++ R) → Rw w' sp Z)
    (fin : ∀ so w', At W w' (arT p (sealS T1 keys (rowP Z s) back nw keys.length).1 :: (srvL x p nw sec sp sr ss st ++ (ownA so (sealS T1 keys (rowP Z s) back nw keys.length).2 :: R))) → RR (.tuple #[.slice so.a so.len so.cap, .int .i64 0]) w') :
    mix_servers_round.l1 RR (some x) s sb kk ((kk.len : Nat) : Int) ⟨none, 0, 0⟩ 0 w := by
  unfold mix_servers_round.l1
  refine ⟨fun t w' => ∃ k : Nat, t.2 = k ∧ k ≤ keys.length ∧ At W w' (arT p (sealS T1 keys (rowP Z s) back nw k).1 :: ownA t.1 (sealS T1 keys (rowP Z s) back nw k).2 :: (srvL x p nw sec sp sr ss st ++ (ownA sb back :: ownA kk keys :: R))), fun t _ => keys.length - t.2.toNat,
    ⟨0, rfl, Nat.zero_le _, h.nil.swap⟩, ?_⟩
  clear h
  rintro ⟨out, _⟩ w1 ⟨k, rfl, hkk, h1⟩
  show mix_servers_round.b1 _ _ (some x) s sb kk ((kk.len : Nat) : Int) out (k : Int) w1
  have h1 : At W w1 (arT p (sealS T1 keys (rowP Z s) back nw k).1 :: ownA out (sealS T1 keys (rowP Z s) back nw k).2 :: (srvL x p nw sec sp sr ss st ++ (ownA sb back :: ownA kk keys :: R))) := h1
  unfold mix_servers_round.b1
  obtain ⟨g, e1, e2, e3⟩ := sealS_good (nw := nw) hl hn hk hb hp hpl k hkk (by omega)
  have hlen : kk.len = keys.length := h1.numLen 8 rfl
  -- one more
  have step : ∀ {y : Int} {w' : World}, sealS T1 keys (rowP Z s) back nw (k + 1) = ((sealS T1 keys (rowP Z s) back nw (k + 1)).1, (sealS T1 keys (rowP Z s) back nw k).2 ++ [y]) → k < keys.length → At W w' (arT p (sealS T1 keys (rowP Z s) back nw (k + 1)).1 :: ownA out (sealS T1 keys (rowP Z s) back nw k).2 :: (srvL x p nw sec sp sr ss st ++ (ownA sb back :: ownA kk keys :: R))) →
      mix_servers_round.c2 RR (fun x0' s1' back18' t155' t156' out20' t157' w' => (x0' = some x ∧ s1' = (s : Int) ∧ back18' = sb ∧ t155' = kk ∧ t156' = ((kk.len : Nat) : Int) ∧ ∃ k : Nat, t157' = k ∧ k ≤ keys.length ∧ At W w' (arT p (sealS T1 keys (rowP Z s) back nw k).1 :: ownA out20' (sealS T1 keys (rowP Z s) back nw k).2 :: (srvL x p nw sec sp sr ss st ++ (ownA sb back :: ownA kk keys :: R)))) ∧ keys.length - t157'.toNat < keys.length - ((k : Nat) : Int).toNat) (some x) s sb out y kk ((kk.len : Nat) : Int) k w' := by
    intro y w' he hlt h'
    unfold mix_servers_round.c2
    obtain ⟨s', w2, run, h2⟩ := more_at 1 rfl h' y (by omega)
    have h2 : At W w2 (arT p (sealS T1 keys (rowP Z s) back nw (k + 1)).1 :: ownA s' ((sealS T1 keys (rowP Z s) back nw k).2 ++ [y]) :: (srvL x p nw sec sp sr ss st ++ (ownA sb back :: ownA kk keys :: R))) := h2
    refine ⟨s'.a, s'.len, s'.cap, w2, run, ?_⟩
    rw [inc (by omega)]
    refine ⟨⟨rfl, rfl, rfl, rfl, rfl, k + 1, rfl, by omega, ?_⟩, by omega⟩
    rw [show (sealS T1 keys (rowP Z s) back nw (k + 1)).2 = (sealS T1 keys (rowP Z s) back nw k).2 ++ [y] by rw [he]]
    exact h2
  refine cond_d (p := ((k : Nat) : Int) < ((kk.len : Nat) : Int)) (fun hlt => ?_) fun hge => ?_
  · have hkl : k < keys.length := by omega
    obtain ⟨q, hq, hc⟩ := (rowNow 8 rfl h1.s (by omega)).get (i := (k : Int)) (by omega) (by omega)
    rw [Int.toNat_natCast] at hc
    refine ⟨by omega, hlt, q, hq, _, by rw [Int.toNat_natCast]; exact hc, x, rfl, _, h1.s.cell 2 rfl 7 rfl, cond_d (p := keys[k]?.getD 0 ≥ 0) (fun h0 => ?_) fun h0 => ?_⟩
    · have hd := h1.drew
      have hrw : Rw w1.drew sp Z := hP (_ :: _ :: (srvL x p nw sec sp sr ss st ++ [_, _])) w1.drew (by simpa [List.append_assoc] using hd)
      have hrl := hrw.len
      obtain ⟨qa, qs, hqa, hca, hla, hqs, hcs⟩ := hrw.at_ hs (k := k) (by omega)
      have hpk := hp _ (getD_mem (l := rowP Z s) (k := k) (by omega))
      have hsb : sb.len = back.length := hd.numLen 7 rfl
      obtain ⟨qb, hqb, hcb⟩ := (rowNow 7 rfl hd.s (by omega)).get (i := (rowP Z s)[k]?.getD 0) (by omega) (by omega)
      refine ⟨fun y => y = w1.drew, rfl, x, rfl, _, fun y hy => by rw [hy]; exact hd.s.cell0 2 rfl rfl, x, rfl, _, _, _, fun y hy => by rw [hy]; exact hd.s.cell 2 rfl 6 rfl, by omega, by omega, qa, hqa, _, _, _, fun y hy => by rw [hy, Int.toNat_natCast]; exact hca, by omega, by omega, qs, hqs, _, fun y hy => by rw [hy, Int.toNat_natCast]; exact hcs,
        by omega, by omega, qb, hqb, _, fun y hy => by rw [hy]; exact hcb, ?_⟩
      refine (back_at hd (keys[k]?.getD 0) (back[((rowP Z s)[k]?.getD 0).toNat]?.getD 0)).mono ?_
      rintro _ w2 ⟨rfl, h2⟩
      have ed : sealS T1 keys (rowP Z s) back nw (k + 1) = ((put (sealS T1 keys (rowP Z s) back nw k).1 ⟨6, 0, [keys[k]?.getD 0, back[((rowP Z s)[k]?.getD 0).toNat]?.getD 0]⟩).1, (sealS T1 keys (rowP Z s) back nw k).2 ++ [(put (sealS T1 keys (rowP Z s) back nw k).1 ⟨6, 0, [keys[k]?.getD 0, back[((rowP Z s)[k]?.getD 0).toNat]?.getD 0]⟩).2.1]) := by
        show (if 0 ≤ keys[k]?.getD 0 then _ else _) = _; rw [if_pos h0]
      refine ⟨_, _, rfl, cond_n (fun hne => absurd (e3 hkl h0) hne) fun _ => step ?_ hkl ?_⟩
      · rw [ed]
      · rw [ed]; exact h2
    · have ed : sealS T1 keys (rowP Z s) back nw (k + 1) = ((sealS T1 keys (rowP Z s) back nw k).1, (sealS T1 keys (rowP Z s) back nw k).2 ++ [nw]) := by
        show (if 0 ≤ keys[k]?.getD 0 then _ else _) = _; rw [if_neg h0]
      refine step ?_ hkl ?_
      · rw [ed]
      · rw [ed]; exact h1
  · have hke : k = keys.length := by omega
    subst hke
    have h2 : At W w1 (arT p (sealS T1 keys (rowP Z s) back nw keys.length).1 :: ownA out (sealS T1 keys (rowP Z s) back nw keys.length).2 :: (srvL x p nw sec sp sr ss st ++ R)) := (h1.less 7 rfl).less 7 rfl
    exact fin out w1 (h2.perm (List.Perm.cons _ List.perm_middle.symm))

/-- a round from a server on -/
theorem round_at (hZ : Z.length = 3) : ∀ (d : Nat) {s : Nat} {w : World} {R : List Asn} {sr : Sl} {ss : Nat → Sl} {st : MxS} {l : List Int} {sl : Sl}, s + d = 3 → RdIn T nw secs (rowP Z) st l → (∀ k, s ≤ k → k < 3 → (st.seen k).length ≤ 1000000) → st.regs.length ≤ 10000 → T.length + 100 * d ≤ 800000 →
    At W w (arT p T :: (srvL x p nw sec sp sr ss st ++ R)) → (∀ L w', At W w' (L ++ R) → Ints .i64 w' sec secs) → (∀ L w', At W w' (L ++ R) → Ints .i64 w' sl l) → (∀ L w', At W w' (L ++ R) → Rw w' sp Z) →
    CallsV Tryd.prog n_mix_servers_round #[.pointer (some x), .int .i64 s, sV sl] w fun v w' => ∃ (so sr' : Sl) (ss' : Nat → Sl), v = .tuple #[sV so, .int .i64 0] ∧
      At W w' (arT p (rndT T nw secs (rowP Z) d s st l).1 :: (srvL x p nw sec sp sr' ss' (rndT T nw secs (rowP Z) d s st l).2.1 ++ (ownA so (rndT T nw secs (rowP Z) d s st l).2.2 :: R)))
  | 0, s, w, R, sr, ss, st, l, sl, hsd, hin, hse, hrl, hTl, h, hS, hL, hP => by
    refine mix_servers_round.lift (x0 := some x) (s1 := s) (in2 := sl) ?_
    unfold mix_servers_round.main
    refine cond_e (fun _ => ?_) fun hne => absurd (by omega) hne
    have hd := h.drew
    have hfew := hin.few
    refine ⟨fun y => y = w.drew, rfl, x, rfl, _, fun y hy => by rw [hy]; exact hd.s.cell0 1 rfl rfl, x, rfl, _, _, _, fun y hy => by rw [hy]; exact hd.s.cell 1 rfl 1 rfl, ?_⟩
    refine (do_at hd (s1 := sr) (s2 := sl) (rs := st.regs) (l := l) (by omega) (by omega) (by omega) (fun L w' hw => regNow 1 rfl hw.dropL.s) (fun L w' hw => hL (L ++ srvL x p nw sec sp sr ss st) w' (by rw [List.append_assoc]; exact hw))).mono ?_
    rintro _ w1 ⟨t1, t2, rfl, good, _⟩
    have he : doErr T st.regs l = 0 := by
      unfold doErr; rw [if_neg (fun hh => hh ⟨hin.regin, hin.lin⟩), if_neg (by omega)]
    have h1 := good he
    have h2 : At W w1 (regA t1 (doT T st.regs l).1 :: ownA t2 (doT T st.regs l).2 :: arT p (wordT T).1 :: boxA x [.pointer (some p), sV sr, sV (ss 0), sV (ss 1), sV (ss 2), sV sec, sV sp, .int .i64 nw] :: ([regA sr st.regs, ownA (ss 0) (st.seen 0), ownA (ss 1) (st.seen 1), ownA (ss 2) (st.seen 2)] ++ R)) := h1
    obtain ⟨wr, h3⟩ := h2.poke 3 rfl (j := 1) (by simp) (sV t1)
    refine ⟨_, _, _, _, _, _, _, rfl, x, rfl, wr, t2, t1, ss, by rw [he], ?_⟩
    have h3 : At W (w1.setCell (x.add 1) (sV t1)) (regA t1 (doT T st.regs l).1 :: ownA t2 (doT T st.regs l).2 :: arT p (wordT T).1 :: boxA x [.pointer (some p), sV t1, sV (ss 0), sV (ss 1), sV (ss 2), sV sec, sV sp, .int .i64 nw] :: ([regA sr st.regs, ownA (ss 0) (st.seen 0), ownA (ss 1) (st.seen 1), ownA (ss 2) (st.seen 2)] ++ R)) := h3
    have h4 : At W (w1.setCell (x.add 1) (sV t1)) ([regA t1 (doT T st.regs l).1, ownA t2 (doT T st.regs l).2, arT p (wordT T).1, boxA x [.pointer (some p), sV t1, sV (ss 0), sV (ss 1), sV (ss 2), sV sec, sV sp, .int .i64 nw], ownA (ss 0) (st.seen 0), ownA (ss 1) (st.seen 1), ownA (ss 2) (st.seen 2)] ++ R) := h3.less 4 rfl
    have h5 : At W (w1.setCell (x.add 1) (sV t1)) (arT p (wordT T).1 :: boxA x [.pointer (some p), sV t1, sV (ss 0), sV (ss 1), sV (ss 2), sV sec, sV sp, .int .i64 nw] :: regA t1 (doT T st.regs l).1 :: ownA t2 (doT T st.regs l).2 :: ([ownA (ss 0) (st.seen 0), ownA (ss 1) (st.seen 1), ownA (ss 2) (st.seen 2)] ++ R)) :=
      (h4.front 3 rfl).front 3 rfl
    exact h5.perm (List.Perm.cons _ (List.Perm.cons _ (List.Perm.cons _ List.perm_middle.symm)))
  | d + 1, s, w, R, sr, ss, st, l, sl, hsd, hin, hse, hrl, hTl, h, hS, hL, hP => by
    have hs3 : s < 3 := by omega
    have hfew := hin.few
    have hlen : sl.len = l.length := (hL (arT p T :: srvL x p nw sec sp sr ss st) w h).len
    have hperm := hin.permin s hs3
    refine mix_servers_round.lift (x0 := some x) (s1 := s) (in2 := sl) ?_
    unfold mix_servers_round.main
    refine cond_e (fun he => absurd he (by omega)) fun _ => ?_
    have rest : ∀ {w' : World} {on kk : Sl}, At W w' (arT p T :: (srvL x p nw sec sp sr ss st ++ (ownA kk (List.replicate l.length 0) :: ownA on (List.replicate l.length 0) :: R))) →
        mix_servers_round.l4 (fun v w' => ∃ (so sr' : Sl) (ss' : Nat → Sl), v = .tuple #[sV so, .int .i64 0] ∧ At W w' (arT p (rndT T nw secs (rowP Z) (d + 1) s st l).1 :: (srvL x p nw sec sp sr' ss' (rndT T nw secs (rowP Z) (d + 1) s st l).2.1 ++ (ownA so (rndT T nw secs (rowP Z) (d + 1) s st l).2.2 :: R)))) (some x) s on kk sl ((sl.len : Nat) : Int) 0 w' := by
      intro w' on kk h'
      refine round_l4 hin hs3 hZ (hse s (Nat.le_refl _) hs3) h' hS hL hP fun ss1 w1 h1 => ?_
      unfold mix_servers_round.c3
      have hops := openS_seen (T := T) (sec := secs[s]?.getD 0) (seen := st.seen s) (l := l) l.length
      have hnx := hin.next hs3
      obtain ⟨g, r1, r2, r3⟩ := rnd_good d (s := s + 1) (by omega) hnx (by omega)
      rw [inc (by omega)]
      refine (round_at hZ d (s := s + 1) (R := ownA kk _ :: ownA on _ :: R) (by omega) hnx (fun k hk hk3 => ?_) hrl (by omega) h1 (fun L w' hw => hS (L ++ [_, _]) w' (by rw [List.append_assoc]; exact hw)) (fun L w' hw => rowNow 1 rfl hw.dropL.s (by rw [onS_len]; omega)) (fun L w' hw => hP (L ++ [_, _]) w' (by rw [List.append_assoc]; exact hw))).mono ?_
      · show (if k = s then _ else st.seen k).length ≤ _
        rw [if_neg (by omega)]
        exact hse k (by omega) hk3
      rintro _ w2 ⟨so, sr', ss', rfl, h2⟩
      refine ⟨_, _, _, _, rfl, cond_n (fun hh => absurd rfl hh) fun _ => ?_⟩
      have h3 := h2.less 8 rfl
      rw [onS_len] at r1
      have hkl : ((openS T (secs[s]?.getD 0) (st.seen s) l l.length).1.map keyO).length = l.length := by rw [List.length_map, openS_len]
      have hpl := hperm.1
      have gl := g.len
      refine round_l1 (keys := (openS T (secs[s]?.getD 0) (st.seen s) l l.length).1.map keyO) (by omega) (g.ext.inT hin.nwin) (fun y hy h0 => g.ext.inT (hin.keys hs3 y hy h0)) r2 (by rw [r1]; exact hperm.2.1) (by rw [hkl]; exact hpl) (by omega) (by omega) (by omega) h3 hP fun so' w3 h4 => ⟨so', sr', ss', rfl, ?_⟩
      rw [hkl] at h4
      exact h4
    have hz : List.replicate sl.len (0 : Int) = List.replicate l.length 0 := by rw [hlen]
    have hd := h.drew
    refine ⟨fun y => y = w.drew, rfl, ⟨by omega, by omega, by omega, by omega, ?_⟩, ⟨by omega, by omega, by omega, by omega, ?_⟩⟩
    · intro w1
      have h1 := hd.zeros3 (n := sl.len) (by omega)
      have h1 : At W w1 (ownA ⟨some (newA w.drew), sl.len, sl.len⟩ (List.replicate sl.len 0) :: (arT p T :: (srvL x p nw sec sp sr ss st ++ R))) := h1
      clear_value w1
      refine ⟨by omega, by omega, by omega, by omega, ?_⟩
      intro w2
      have h2 := h1.zeros3 (n := sl.len) (by omega)
      have h2 : At W w2 (ownA ⟨some (newA w1), sl.len, sl.len⟩ (List.replicate sl.len 0) :: ownA ⟨some (newA w.drew), sl.len, sl.len⟩ (List.replicate sl.len 0) :: (arT p T :: (srvL x p nw sec sp sr ss st ++ R))) := h2
      clear_value w2
      rw [hz] at h2
      exact rest (h2.perm (permK (K := [_, _])))
    · intro w1
      have h1 := hd.zeros3 (n := sl.len) (by omega)
      have h1 : At W w1 (ownA ⟨some (newA w.drew), sl.len, sl.len⟩ (List.replicate sl.len 0) :: (arT p T :: (srvL x p nw sec sp sr ss st ++ R))) := h1
      clear_value w1
      refine ⟨by omega, by omega, by omega, by omega, ?_⟩
      intro w2
      have h2 := h1.zeros3 (n := sl.len) (by omega)
      have h2 : At W w2 (ownA ⟨some (newA w1), sl.len, sl.len⟩ (List.replicate sl.len 0) :: ownA ⟨some (newA w.drew), sl.len, sl.len⟩ (List.replicate sl.len 0) :: (arT p T :: (srvL x p nw sec sp sr ss st ++ R))) := h2
      clear_value w2
      rw [hz] at h2
      exact rest (h2.swap.perm (permK (K := [_, _])))
end

end Go.Proofs.YtoclhecldmahiaaDoor

/-
  Rounds of servers: the contract of Round.
-/
set_option linter.unusedVariables false
set_option linter.unusedSimpArgs false
namespace Go.Proofs.YtoclhecldmahiaaDoor
open Go.Lf Go.RowKit

/-- what the servers hold, in memory -/
def mixL (sr : Sl) (ss : Nat → Sl) (st : MxS) : List Asn := [regA sr st.regs, ownA (ss 0) (st.seen 0), ownA (ss 1) (st.seen 1), ownA (ss 2) (st.seen 2)]
abbrev mV (sr : Sl) (ss : Nat → Sl) : Value := .agg #[sV sr, sV (ss 0), sV (ss 1), sV (ss 2)]
def roundT (T : List Tm) (st : MxS) (secs l : List Int) (P : Nat → List Int) : List Tm × MxS × List Int := rndT (wordT T).1 (wordT T).2.1 secs P 3 0 st l

theorem wordT_twice {T : List Tm} (hT : TOk (wordT T).1) (hl : T.length ≤ 1000000) : wordT (wordT T).1 = ((wordT T).1, (wordT T).2.1, 0) := by
  obtain ⟨x, h1, h2, h3, g⟩ := wordT_good hl
  have he : errOf (wordT T).1 ⟨2, 0, []⟩ = 0 := err_word (by omega)
  rw [h1]
  exact put_there hT h3 he
theorem wrongT_ok {T : List Tm} {st : MxS} {secs l : List Int} {P : List (List Int)} (h : wrongT T st secs l P = 0) : secs.length = 3 ∧ P.length = 3 ∧ l.length ≤ 100 ∧ (∀ p ∈ P, permOk p l.length) ∧ (∀ r ∈ st.regs, inT T r.1 ∧ inT T r.2) ∧ (∀ x ∈ secs, inT T x) ∧ (∀ x ∈ l, inT T x) ∧ ∀ k, k < 3 → ∀ x ∈ st.seen k, inT T x := by
  unfold wrongT at h
  split at h
  · omega
  · rename_i h1
    split at h
    · omega
    · rename_i h2
      split at h
      · omega
      · rename_i h3
        have h2 := Classical.byContradiction h2
        obtain ⟨a1, a2, a3, a4⟩ := Classical.byContradiction h3
        exact ⟨by omega, by omega, by omega, h2, a1, a2, a3, a4⟩
theorem wrongT_in {T : List Tm} {st : MxS} {secs l : List Int} {Z : List (Sl × List Int)} (hT : TOk (wordT T).1) (hl : T.length ≤ 1000000) (h : wrongT T st secs l (rowsP Z) = 0) : Z.length = 3 ∧ RdIn (wordT T).1 (wordT T).2.1 secs (rowP Z) st l := by
  obtain ⟨h1, h2, h3, h4, h5, h6, h7, h8⟩ := wrongT_ok h
  have hZ : Z.length = 3 := by rw [← h2]; simp [rowsP]
  obtain ⟨x, e1, e2, e3, g⟩ := wordT_good hl
  refine ⟨hZ, hT, wordT_twice hT hl, (putG (err_word (by omega)) (by omega)).2, h1, fun y hy => g.ext.inT (h6 y hy), fun k hk => h4 _ (rowsP_mem (by omega)), fun r hr => ⟨g.ext.inT (h5 r hr).1, g.ext.inT (h5 r hr).2⟩, fun y hy => g.ext.inT (h7 y hy), h3⟩

section
variable {W w w' : World} {L R Y : List Asn} {x p : Addr} {T : List Tm} {nw : Int} {sec sp sr sl : Sl} {ss : Nat → Sl} {st : MxS} {Z : List (Sl × List Int)} {secs l : List Int} {X : Asn}

theorem At.set4 (h : At W w R) (k : Nat) {q : Addr} {x y z u : Value} (hk : R[k]? = some (boxA q [x, y, z, u])) (a b c d : Value) : (∀ j, j < 4 → Wr w (q.add j)) ∧ At W (setCells q [a, b, c, d] 0 w) (R.set k (boxA q [a, b, c, d])) := by
  refine ⟨fun j hj => h.s.wr k hk (by simpa using hj), ?_⟩
  have hlt := (List.getElem?_eq_some_iff.1 hk).1
  obtain ⟨h1, b1⟩ := h.s.set k hk (j := 0) (by simp) a
  obtain ⟨h2, b2⟩ := h1.set k (p := q) (cs := [a, y, z, u]) (by simp [hlt]) (j := 1) (by simp) b
  obtain ⟨h3, b3⟩ := h2.set k (p := q) (cs := [a, b, z, u]) (by simp [hlt]) (j := 2) (by simp) c
  obtain ⟨h4, b4⟩ := h3.set k (p := q) (cs := [a, b, c, u]) (by simp [hlt]) (j := 3) (by simp) d
  refine h.go ?_ (((b1.trans b2).trans b3).trans b4)
  unfold setCells setCells setCells setCells
  rw [List.set_set, List.set_set, List.set_set] at h4
  exact h4

theorem seen_put {s : Nat} {s' : Sl} {ys : List Int} (h : At W w (ownA s' ys :: X :: (srvL x p nw sec sp sr ss st ++ Y))) (hs : s < 3) : Wr w (((x.add 1).add 1).add s) ∧
    At W (w.setCell (((x.add 1).add 1).add s) (.slice s'.a s'.len s'.cap)) (X :: (srvL x p nw sec sp sr (fun j => if j = s then s' else ss j) (seenAt st s ys) ++ Y)) := by
  rw [add_add, add_add]
  have h0 : At W w (ownA s' ys :: X :: boxA x [.pointer (some p), sV sr, sV (ss 0), sV (ss 1), sV (ss 2), sV sec, sV sp, .int .i64 nw] :: regA sr st.regs :: ownA (ss 0) (st.seen 0) :: ownA (ss 1) (st.seen 1) :: ownA (ss 2) (st.seen 2) :: Y) := h
  have : s = 0 ∨ s = 1 ∨ s = 2 := by omega
  rcases this with rfl | rfl | rfl
  · obtain ⟨wr, h1⟩ := h0.poke 2 rfl (j := 2) (by simp) (sV s')
    have h2 : At W (w.setCell (x.add 2) (sV s')) (ownA s' ys :: X :: boxA x [.pointer (some p), sV sr, sV s', sV (ss 1), sV (ss 2), sV sec, sV sp, .int .i64 nw] :: regA sr st.regs :: ownA (ss 1) (st.seen 1) :: ownA (ss 2) (st.seen 2) :: Y) := h1.less 4 rfl
    exact ⟨wr, h2.perm (permK (K := [_]) (S := [_, _]))⟩
  · obtain ⟨wr, h1⟩ := h0.poke 2 rfl (j := 3) (by simp) (sV s')
    have h2 : At W (w.setCell (x.add 3) (sV s')) (ownA s' ys :: X :: boxA x [.pointer (some p), sV sr, sV (ss 0), sV s', sV (ss 2), sV sec, sV sp, .int .i64 nw] :: regA sr st.regs :: ownA (ss 0) (st.seen 0) :: ownA (ss 2) (st.seen 2) :: Y) := h1.less 5 rfl
    exact ⟨wr, h2.perm (permK (K := [_]) (S := [_, _, _]))⟩
  · obtain ⟨wr, h1⟩ := h0.poke 2 rfl (j := 4) (by simp) (sV s')
    have h2 : At W (w.setCell (x.add 4) (sV s')) (ownA s' ys :: X :: boxA x [.pointer (some p), sV sr, sV (ss 0), sV (ss 1), sV s', sV sec, sV sp, .int .i64 nw] :: regA sr st.regs :: ownA (ss 0) (st.seen 0) :: ownA (ss 1) (st.seen 1) :: Y) := h1.less 6 rfl
    exact ⟨wr, h2.perm (permK (K := [_]) (S := [_, _, _, _]))⟩

/-- a round -/
theorem mround_at (h : At W w (arT p T :: R)) (hrl : st.regs.length ≤ 10000) (hsl : ∀ k, k < 3 → (st.seen k).length ≤ 1000000) (hTl : T.length ≤ 700000)
    (hR : ∀ L w', At W w' (L ++ R) → Regs w' sr st.regs) (hn : sr.a = none → st.regs = []) (hSe : ∀ k, k < 3 → ∀ L w', At W w' (L ++ R) → Ints .i64 w' (ss k) (st.seen k))
    (hSc : ∀ L w', At W w' (L ++ R) → Ints .i64 w' sec secs) (hL : ∀ L w', At W w' (L ++ R) → Ints .i64 w' sl l) (hP : ∀ L w', At W w' (L ++ R) → Rw w' sp Z) :
    CallsV Tryd.prog n_mix_Round #[.pointer (some p), mV sr ss, sV sec, sV sl, sV sp] w fun v w' => ∃ (sr' so : Sl) (ss' : Nat → Sl), v = .tuple #[mV sr' ss', sV so, .int .i64 (wrongT T st secs l (rowsP Z))] ∧
      (wrongT T st secs l (rowsP Z) = 0 → At W w' (arT p (roundT T st secs l (rowP Z)).1 :: (mixL sr' ss' (roundT T st secs l (rowP Z)).2.1 ++ (ownA so (roundT T st secs l (rowP Z)).2.2 :: R)))) ∧
      (wrongT T st secs l (rowsP Z) ≠ 0 → sr' = ⟨none, 0, 0⟩ ∧ (∀ k, ss' k = ⟨none, 0, 0⟩) ∧ so = ⟨none, 0, 0⟩ ∧ At W w' (arT p T :: R)) := by
  refine mix_Round.lift (st1_0 := sr) (st1_1 := ss 0) (st1_2 := ss 1) (st1_3 := ss 2) (secrets2 := sec) (in3 := sl) (perms4 := sp) ?_
  unfold mix_Round.main
  intro w6 w7
  have h6 : At W w6 (boxA (newA w) [sV sr, sV (ss 0), sV (ss 1), sV (ss 2)] :: arT p T :: R) := h.box 127 [sV sr, sV (ss 0), sV (ss 1), sV (ss 2)]
  have h7 : At W w7 (boxA (newA w6) [.slice none 0 0, .slice none 0 0, .slice none 0 0, .slice none 0 0] :: boxA (newA w) [sV sr, sV (ss 0), sV (ss 1), sV (ss 2)] :: arT p T :: R) := h6.box 127 [.slice none 0 0, .slice none 0 0, .slice none 0 0, .slice none 0 0]
  clear_value w7
  generalize newA w6 = nb at h7 ⊢
  generalize newA w = sb at h7 ⊢
  clear h6
  refine ⟨_, _, _, h7.s.cell0 1 rfl rfl, _, _, _, h7.s.cell 1 rfl 1 rfl, _, _, _, h7.s.cell 1 rfl 2 rfl, _, _, _, h7.s.cell 1 rfl 3 rfl, ?_⟩
  have h7 : At W w7 (arT p T :: boxA nb [.slice none 0 0, .slice none 0 0, .slice none 0 0, .slice none 0 0] :: boxA sb [sV sr, sV (ss 0), sV (ss 1), sV (ss 2)] :: R) := h7.front 2 rfl
  have up : ∀ {P : World → Prop}, (∀ L w', At W w' (L ++ R) → P w') → ∀ L w', At W w' (L ++ (boxA nb [.slice none 0 0, .slice none 0 0, .slice none 0 0, .slice none 0 0] :: boxA sb [sV sr, sV (ss 0), sV (ss 1), sV (ss 2)] :: R)) → P w' := fun hX L w' hw => hX (L ++ [_, _]) w' (by rw [List.append_assoc]; exact hw)
  refine (mixwrong_at h7 (sr := sr) (ss := ss) (by omega) (up hR) (fun k hk => up (hSe k hk)) (up hSc) (up hL) (up hP)).mono ?_
  rintro _ w8 ⟨rfl, h8⟩
  refine ⟨_, rfl, cond_n (fun hne => ?_) fun he => ?_⟩
  · obtain ⟨wr, h9⟩ := h8.set4 1 rfl (.slice none 0 0) (.slice none 0 0) (.slice none 0 0) (.slice none 0 0)
    refine ⟨wr, ?_⟩
    intro w9
    have h9 : At W w9 (arT p T :: boxA nb [.slice none 0 0, .slice none 0 0, .slice none 0 0, .slice none 0 0] :: boxA sb [sV sr, sV (ss 0), sV (ss 1), sV (ss 2)] :: R) := h9
    clear_value w9
    refine ⟨_, _, _, h9.s.cell0 1 rfl rfl, _, _, _, h9.s.cell 1 rfl 1 rfl, _, _, _, h9.s.cell 1 rfl 2 rfl, _, _, _, h9.s.cell 1 rfl 3 rfl, ⟨none, 0, 0⟩, ⟨none, 0, 0⟩, fun _ => ⟨none, 0, 0⟩, rfl, fun hh => absurd hh hne, fun _ => ⟨rfl, fun _ => rfl, rfl, (h9.less 1 rfl).less 1 rfl⟩⟩
  · refine (mk0 2 0 h8 (by omega)).mono ?_
    rintro _ w10 ⟨rfl, h10⟩
    have h10 : At W w10 (arT p (wordT T).1 :: boxA nb [.slice none 0 0, .slice none 0 0, .slice none 0 0, .slice none 0 0] :: boxA sb [sV sr, sV (ss 0), sV (ss 1), sV (ss 2)] :: R) := h10
    obtain ⟨xw, wg1, wg2, wg3, wg⟩ := wordT_good (T := T) (by omega)
    have wgl := wg.len
    refine ⟨_, _, rfl, cond_n (fun hne => absurd wg2 hne) fun _ => ?_⟩
    intro w12
    have h12 : At W w12 (boxA (newA w10) [.pointer (some p), .slice none 0 0, .slice none 0 0, .slice none 0 0, .slice none 0 0, sV sec, sV sp, .int .i64 (wordT T).2.1] :: arT p (wordT T).1 :: boxA nb [.slice none 0 0, .slice none 0 0, .slice none 0 0, .slice none 0 0] :: boxA sb [sV sr, sV (ss 0), sV (ss 1), sV (ss 2)] :: R) :=
      h10.box 193 [.pointer (some p), .slice none 0 0, .slice none 0 0, .slice none 0 0, .slice none 0 0, sV sec, sV sp, .int .i64 (wordT T).2.1]
    clear_value w12
    generalize newA w10 = x at h12 ⊢
    refine ⟨_, _, _, h12.s.cell0 3 rfl rfl, ?_⟩
    refine (clone_regs h12 (s := sr) (hR [_, _, _, _] w12 h12) hn (by omega)).mono ?_
    rintro _ w13 ⟨sr', rfl, h13⟩
    obtain ⟨wr, h14⟩ := h13.poke 1 rfl (j := 1) (by simp) (sV sr')
    refine ⟨_, _, _, rfl, x, rfl, wr, ?_⟩
    intro w14
    have h14 : At W w14 (regA sr' st.regs :: boxA x [.pointer (some p), sV sr', .slice none 0 0, .slice none 0 0, .slice none 0 0, sV sec, sV sp, .int .i64 (wordT T).2.1] :: arT p (wordT T).1 :: boxA nb [.slice none 0 0, .slice none 0 0, .slice none 0 0, .slice none 0 0] :: boxA sb [sV sr, sV (ss 0), sV (ss 1), sV (ss 2)] :: R) := h14
    clear_value w14
    have h15 := (((h14.nil.nil.nil).front 3 rfl).front 4 rfl).front 5 rfl
    have h15 : At W w14 (arT p (wordT T).1 :: (srvL x p (wordT T).2.1 sec sp sr' (fun _ => ⟨none, 0, 0⟩) ⟨st.regs, fun _ => []⟩ ++ (boxA nb [.slice none 0 0, .slice none 0 0, .slice none 0 0, .slice none 0 0] :: boxA sb [sV sr, sV (ss 0), sV (ss 1), sV (ss 2)] :: R))) := h15
    unfold mix_Round.l2
    refine ⟨fun t w' => ∃ (k : Nat) (tt : Nat → Sl) (s1 : MxS), t = k ∧ k ≤ 3 ∧ s1.regs = st.regs ∧ (∀ j, j < k → s1.seen j = st.seen j) ∧ At W w' (arT p (wordT T).1 :: (srvL x p (wordT T).2.1 sec sp sr' tt s1 ++ (boxA nb [.slice none 0 0, .slice none 0 0, .slice none 0 0, .slice none 0 0] :: boxA sb [sV sr, sV (ss 0), sV (ss 1), sV (ss 2)] :: R))), fun t _ => 3 - t.toNat,
      ⟨0, fun _ => ⟨none, 0, 0⟩, ⟨st.regs, fun _ => []⟩, rfl, by omega, rfl, fun j hj => absurd hj (by omega), h15⟩, ?_⟩
    clear h15
    rintro _ w16 ⟨k, tt, s1, rfl, hk, hr1, hs1, h16⟩
    unfold mix_Round.b2
    refine cond_d (p := ((k : Nat) : Int) < 3) (fun hlt => ?_) fun hge => ?_
    · have hk3 : k < 3 := by omega
      have hd := h16.drew
      have hcell : w16.drew.cell? (sb.add (1 + k)) = some (.slice (ss k).a (ss k).len (ss k).cap) := by
        have : k = 0 ∨ k = 1 ∨ k = 2 := by omega
        rcases this with rfl | rfl | rfl
        · exact hd.s.cell 7 rfl 1 rfl
        · exact hd.s.cell 7 rfl 2 rfl
        · exact hd.s.cell 7 rfl 3 rfl
      refine ⟨fun y => y = w16.drew, rfl, by omega, by omega, _, _, _, fun y hy => by rw [hy, Int.toNat_natCast, add_add]; exact hcell, x, rfl, ?_⟩
      refine (clone_spec (s := ss k) (xs := st.seen k) (keepS (K := [_, _]) (hSe k hk3) hd) (by have := hsl k hk3; omega)).mono ?_
      rintro _ w17 ⟨s', rfl, ho, hb⟩
      obtain ⟨wr, h18⟩ := seen_put (hd.own ho hb) hk3
      refine ⟨_, _, _, rfl, by omega, by omega, by rw [Int.toNat_natCast]; exact wr, ?_⟩
      rw [inc (by omega), Int.toNat_natCast]
      refine ⟨⟨rfl, rfl, rfl, rfl, k + 1, _, seenAt s1 k (st.seen k), rfl, by omega, hr1, fun j hj => ?_, h18⟩, by (try dsimp only); omega⟩
      show (if j = k then st.seen k else s1.seen j) = st.seen j
      split
      · rename_i e; rw [e]
      · exact hs1 j (by omega)
    · have hk3 : k = 3 := by omega
      subst hk3
      have e : srvL x p (wordT T).2.1 sec sp sr' tt s1 = srvL x p (wordT T).2.1 sec sp sr' tt st := srvL_eq hr1 (fun j hj => hs1 j hj) (fun _ _ => rfl)
      rw [e] at h16
      unfold mix_Round.c1
      obtain ⟨hZ, hin⟩ := wrongT_in h16.ok (by omega) he
      refine (round_at hZ 3 (s := 0) (R := boxA nb _ :: boxA sb _ :: R) rfl hin (fun k _ hk => hsl k hk) hrl (by omega) h16 (up hSc) (up hL) (up hP)).mono ?_
      rintro _ w18 ⟨so, sr2, ss2, rfl, h18⟩
      refine ⟨_, _, _, _, rfl, cond_n (fun hh => absurd rfl hh) fun _ => ?_⟩
      obtain ⟨wr, h19⟩ := h18.set4 7 rfl (sV sr2) (sV (ss2 0)) (sV (ss2 1)) (sV (ss2 2))
      refine ⟨x, rfl, _, _, _, h18.s.cell 1 rfl 1 rfl, _, _, _, by rw [add_add]; exact h18.s.cell 1 rfl 2 rfl, _, _, _, by rw [add_add]; exact h18.s.cell 1 rfl 3 rfl, _, _, _, by rw [add_add]; exact h18.s.cell 1 rfl 4 rfl, wr, ?_⟩
      intro w19
      have h19 : At W w19 (arT p (rndT (wordT T).1 (wordT T).2.1 secs (rowP Z) 3 0 st l).1 :: (srvL x p (wordT T).2.1 sec sp sr2 ss2 (rndT (wordT T).1 (wordT T).2.1 secs (rowP Z) 3 0 st l).2.1 ++ (ownA so (rndT (wordT T).1 (wordT T).2.1 secs (rowP Z) 3 0 st l).2.2 :: boxA nb [sV sr2, sV (ss2 0), sV (ss2 1), sV (ss2 2)] :: boxA sb [sV sr, sV (ss 0), sV (ss 1), sV (ss 2)] :: R))) := h19
      clear_value w19
      exact ⟨_, _, _, h19.s.cell0 7 rfl rfl, _, _, _, h19.s.cell 7 rfl 1 rfl, _, _, _, h19.s.cell 7 rfl 2 rfl, _, _, _, h19.s.cell 7 rfl 3 rfl, sr2, so, ss2, by rw [he], fun _ => ((h19.less 8 rfl).less 7 rfl).less 1 rfl, fun hh => absurd he hh⟩
end

end Go.Proofs.YtoclhecldmahiaaDoor
