/-
  Rounds of servers, the page's: what a server opens and places.
-/
import Derived.Test.YtoclhecldmahiaaDoorMxM
set_option linter.unusedVariables false
set_option linter.unusedVariables false
set_option linter.unusedSimpArgs false
namespace Go.Proofs.YtoclhecldmahiaaDoor
open Go.Lf Go.RowKit

theorem peel_ext {T T1 : List Tm} (hT : TOk T) (he : Ext T T1) {s o : Int} (hs : inT T s) (ho : inT T o) : peelT T1 s o = peelT T s o := by
  have e : unboxT T1 o s = unboxT T o s := by
    have c1 : ¬ ¬ (inT T1 o ∧ inT T1 s) := fun h => h ⟨he.inT ho, he.inT hs⟩
    have c2 : ¬ ¬ (inT T o ∧ inT T s) := fun h => h ⟨ho, hs⟩
    unfold unboxT
    rw [if_neg c1, if_neg c2, tmAt_ext he ho]
    by_cases hk : (tmAt T o).kind ≠ 7
    · rw [if_pos hk, if_pos hk]
    · have hl : 1 ≤ (tmAt T o).args.length := by
        have := leastLen hT ho
        rw [Classical.byContradiction hk] at this
        exact Nat.le_trans (by decide) this
      rw [if_neg hk, if_neg hk, tmAt_ext he (arg0_in hT ho hl)]
  unfold peelT
  rw [e]

/-- the servers on the page -/
def pmxL (y : Addr) (sr : Sl) (ss : Nat → Sl) (st : MxS) : List Asn := boxA y [sV sr, sV (ss 0), sV (ss 1), sV (ss 2)] :: mixL sr ss st
theorem pmxL_eq {y : Addr} {sr : Sl} {ss ss' : Nat → Sl} {st st' : MxS} (h1 : st.regs = st'.regs) (h2 : ∀ j, j < 3 → st.seen j = st'.seen j) (h3 : ∀ j, j < 3 → ss j = ss' j) : pmxL y sr ss st = pmxL y sr ss' st' := by
  unfold pmxL mixL
  rw [h1, h2 0 (by omega), h2 1 (by omega), h2 2 (by omega), h3 0 (by omega), h3 1 (by omega), h3 2 (by omega)]

theorem setB_at_end {A : List Bool} {m k : Nat} (hm : 0 < m) (hk : A.length = k) (y : Bool) : (A ++ List.replicate m false).set k y = (A ++ [y]) ++ List.replicate (m - 1) false := by
  obtain ⟨m', rfl⟩ : ∃ m', m = m' + 1 := ⟨m - 1, by omega⟩
  subst hk
  rw [List.set_append, if_neg (by omega), Nat.sub_self, List.replicate_succ, List.set_cons_zero, List.append_assoc]
  rfl
theorem keep_end {A : List Int} {m : Nat} (hm : 0 < m) : A ++ List.replicate m 0 = (A ++ [0]) ++ List.replicate (m - 1) 0 := by
  obtain ⟨m', rfl⟩ : ∃ m', m = m' + 1 := ⟨m - 1, by omega⟩
  rw [List.replicate_succ, List.append_assoc]
  rfl
theorem keepB_end {A : List Bool} {m : Nat} (hm : 0 < m) : A ++ List.replicate m false = (A ++ [false]) ++ List.replicate (m - 1) false := by
  obtain ⟨m', rfl⟩ : ∃ m', m = m' + 1 := ⟨m - 1, by omega⟩
  rw [List.replicate_succ, List.append_assoc]
  rfl
def keyP : Option (Int × Int) → Int
  | .some x => x.2
  | .none => 0

section
variable {W w w' : World} {L R Y : List Asn} {y p : Addr} {T Tk T1 : List Tm} {nw : Int} {sec sp sr sl : Sl} {ss : Nat → Sl} {st : MxS} {Z : List (Sl × List Int)} {RR : Value → World → Prop} {on kk gd : Sl} {s k : Nat} {secs l : List Int} {X : Asn}

theorem seen_cellP (h : At W w (X :: (pmxL y sr ss st ++ Y))) {s : Nat} (hs : s < 3) (hl : (st.seen s).length ≤ 100000000) : w.cell? ((y.add 1).add s) = some (.slice (ss s).a (ss s).len (ss s).cap) ∧ Ints .i64 w (ss s) (st.seen s) := by
  rw [add_add]
  have : s = 0 ∨ s = 1 ∨ s = 2 := by omega
  rcases this with rfl | rfl | rfl
  · exact ⟨h.s.cell 1 rfl 1 rfl, rowNow 3 rfl h.s (by omega)⟩
  · exact ⟨h.s.cell 1 rfl 2 rfl, rowNow 4 rfl h.s (by omega)⟩
  · exact ⟨h.s.cell 1 rfl 3 rfl, rowNow 5 rfl h.s (by omega)⟩

theorem seen_moreP (h : At W w (X :: (pmxL y sr ss st ++ Y))) {s : Nat} (hs : s < 3) (t : Int) (hl : (st.seen s).length ≤ 10000000) :
    ∃ (s' : Sl) (w' : World), (builtin .append #[29, 29] 29 #[] #[.slice (ss s).a (ss s).len (ss s).cap, .slice (some (newA w)) 1 1]).run Tryd.prog (w.alloc (.cells #[.int .i64 t] 3)) = .ok (.value (.slice s'.a s'.len s'.cap)) w' ∧ Wr w' ((y.add 1).add s) ∧
      At W (w'.setCell ((y.add 1).add s) (.slice s'.a s'.len s'.cap)) (X :: (pmxL y sr (fun j => if j = s then s' else ss j) (seenAt st s (st.seen s ++ [t])) ++ Y)) := by
  rw [add_add]
  have : s = 0 ∨ s = 1 ∨ s = 2 := by omega
  rcases this with rfl | rfl | rfl
  · obtain ⟨s', w', r, h2⟩ := more_at 3 rfl h t (by omega)
    have h2 : At W w' (X :: boxA y [sV sr, sV (ss 0), sV (ss 1), sV (ss 2)] :: regA sr st.regs :: ownA s' (st.seen 0 ++ [t]) :: ownA (ss 1) (st.seen 1) :: ownA (ss 2) (st.seen 2) :: Y) := h2
    exact ⟨s', w', r, h2.s.wr 1 rfl (j := 1) (by simp), h2.go2 (h2.s.set 1 rfl (j := 1) (by simp) (sV s'))⟩
  · obtain ⟨s', w', r, h2⟩ := more_at 4 rfl h t (by omega)
    have h2 : At W w' (X :: boxA y [sV sr, sV (ss 0), sV (ss 1), sV (ss 2)] :: regA sr st.regs :: ownA (ss 0) (st.seen 0) :: ownA s' (st.seen 1 ++ [t]) :: ownA (ss 2) (st.seen 2) :: Y) := h2
    exact ⟨s', w', r, h2.s.wr 1 rfl (j := 2) (by simp), h2.go2 (h2.s.set 1 rfl (j := 2) (by simp) (sV s'))⟩
  · obtain ⟨s', w', r, h2⟩ := more_at 5 rfl h t (by omega)
    have h2 : At W w' (X :: boxA y [sV sr, sV (ss 0), sV (ss 1), sV (ss 2)] :: regA sr st.regs :: ownA (ss 0) (st.seen 0) :: ownA (ss 1) (st.seen 1) :: ownA s' (st.seen 2 ++ [t]) :: Y) := h2
    exact ⟨s', w', r, h2.s.wr 1 rfl (j := 3) (by simp), h2.go2 (h2.s.set 1 rfl (j := 3) (by simp) (sV s'))⟩

theorem rrd_c5 {K O : List Int} {G : List Bool} {N4 : Option Addr → Option Addr → Int → Sl → Sl → Sl → Sl → Sl → Sl → Int → World → Prop} {pk inner : Int} (h : At W w (pgT p Tk :: (pmxL y sr ss st ++ (boolA gd G :: ownA kk K :: ownA on O :: R))))
    (hP : ∀ L w', At W w' (L ++ R) → Rw w' sp Z) (hs : s < Z.length) (hk : k < (rowP Z s).length) (hpk : (rowP Z s)[k]?.getD 0 = pk) (h0 : 0 ≤ pk) (h1 : pk.toNat < O.length)
    (hN : ∀ w', At W w' (pgT p Tk :: (pmxL y sr ss st ++ (boolA gd G :: ownA kk K :: ownA on (O.set pk.toNat inner) :: R))) → N4 (some p) (some y) s sec sl sp on kk gd (IntKind.i64.wrap ((k : Int) + 1)) w') : trystref22_server.c5 RR N4 (some p) (some y) s sec sl sp on kk gd k inner w := by
  unfold trystref22_server.c5
  have hrw := keepS (K := [_, _, _]) hP h
  have hrl := hrw.len
  obtain ⟨q, qs, hq, hc, hl, hqs, hcs⟩ := hrw.at_ hs hk
  rw [hpk] at hcs
  have hol := h.numLen 8 rfl
  obtain ⟨qo, hqo, _⟩ := h.num 8 rfl h1
  obtain ⟨wr1, h2⟩ := h.setNum 8 rfl hqo h1 inner
  refine ⟨by omega, by omega, q, hq, _, _, _, by rw [Int.toNat_natCast]; exact hc, by omega, by omega, qs, hqs, _, by rw [Int.toNat_natCast]; exact hcs, h0, by omega, qo, hqo, wr1, ?_⟩
  exact hN _ h2

theorem rrd_c6 {K O : List Int} {G : List Bool} {N4 : Option Addr → Option Addr → Int → Sl → Sl → Sl → Sl → Sl → Sl → Int → World → Prop} {pk inner key : Int} (h : At W w (pgT p Tk :: (pmxL y sr ss st ++ (boolA gd G :: ownA kk K :: ownA on O :: R))))
    (hP : ∀ L w', At W w' (L ++ R) → Rw w' sp Z) (hL : ∀ L w', At W w' (L ++ R) → Ints .i64 w' sl l) (hkl : k < l.length) (hs : s < Z.length) (hs3 : s < 3) (hk : k < (rowP Z s).length) (hkK : k < K.length) (hkG : k < G.length) (hpk : (rowP Z s)[k]?.getD 0 = pk) (h0 : 0 ≤ pk) (h1 : pk.toNat < O.length) (hse : (st.seen s).length ≤ 10000000)
    (hN : ∀ s' w', At W w' (pgT p Tk :: (pmxL y sr (fun j => if j = s then s' else ss j) (seenAt st s (st.seen s ++ [l[k]?.getD 0])) ++ (boolA gd (G.set k true) :: ownA kk (K.set k key) :: ownA on (O.set pk.toNat inner) :: R))) → N4 (some p) (some y) s sec sl sp on kk gd (IntKind.i64.wrap ((k : Int) + 1)) w') : trystref22_server.c6 RR N4 (some p) (some y) s sec sl sp on kk gd k inner key w := by
  unfold trystref22_server.c6
  have hgl : gd.len = G.length := (h.s.rowLen 6 rfl).1
  obtain ⟨qg, hqg, _⟩ := h.s.boolAt 6 rfl (j := k) hkG
  obtain ⟨wr0, hs2, b2⟩ := h.s.boolSet 6 rfl hqg (j := k) hkG true
  have h2 := h.go hs2 b2
  have h2 : At W (w.setCell (qg.add k) (.bool true)) (pgT p Tk :: (pmxL y sr ss st ++ (boolA gd (G.set k true) :: ownA kk K :: ownA on O :: R))) := h2
  refine ⟨by omega, by omega, qg, hqg, by rw [Int.toNat_natCast]; exact wr0, ?_⟩
  rw [Int.toNat_natCast]
  generalize w.setCell (qg.add k) (.bool true) = w11 at h2 ⊢
  have hd := h2.drew
  have hI := keepS (K := [_, _, _]) hL hd
  have hIl := hI.len
  obtain ⟨ql, hql, hcl⟩ := hI.get (i := (k : Int)) (by omega) (by omega)
  rw [Int.toNat_natCast] at hcl
  obtain ⟨s', w6, run, wr, h7⟩ := seen_moreP hd hs3 (l[k]?.getD 0) hse
  obtain ⟨hc0, _⟩ := seen_cellP hd hs3 (by omega)
  refine ⟨fun u => u.cell? ((y.add 1).add s) = some (.slice (ss s).a (ss s).len (ss s).cap) ∧ u.cell? (ql.add k) = some (.int .i64 (l[k]?.getD 0)), ⟨hc0, hcl⟩, y, rfl, by omega, by omega, _, _, _, fun u hu => by rw [Int.toNat_natCast]; exact hu.1, by omega, by omega, ql, hql, _, fun u hu => hu.2, y, rfl, ?_⟩
  refine ⟨⟨Below.here (below_alloc _ _) hc0, Below.here (below_alloc _ _) hcl⟩, s'.a, s'.len, s'.cap, w6, run, by omega, by omega, by rw [Int.toNat_natCast]; exact wr, ?_⟩
  rw [Int.toNat_natCast]
  generalize w6.setCell ((y.add 1).add s) (.slice s'.a s'.len s'.cap) = w7 at h7 ⊢
  have hkl2 := h7.numLen 7 rfl
  obtain ⟨qk, hqk, _⟩ := h7.num 7 rfl hkK
  obtain ⟨wr2, h3⟩ := h7.setNum 7 rfl hqk hkK key
  refine ⟨by omega, by omega, qk, hqk, wr2, ?_⟩
  exact rrd_c5 (K := K.set k key) (G := G.set k true) h3 hP hs hk hpk h0 h1 fun w' h' => hN s' w' h'

theorem wdW (hT : TOk T) (hl : T.length ≤ 1000000) (hk : Tk = T ∨ Tk = (wordT T).1) : (wordT Tk).1 = (wordT T).1 ∧ (wordT Tk).2.1 = (wordT T).2.1 := by
  rcases hk with rfl | rfl
  · exact ⟨rfl, rfl⟩
  · rw [wordT_again hT hl]; exact ⟨rfl, rfl⟩

/-- what a server of the page opens and places -/
theorem rrd_l4 {Tc : List Tm} (hT : TOk T) (hTl : T.length ≤ 700000) (hT1 : (wordT T).1 = T1) (hnw : (wordT T).2.1 = nw) (hin : RdIn T1 nw secs (rowP Z) st l) (hc : Tc = T ∨ Tc = T1) (hsc : ∀ x ∈ secs, inT Tc x) (hlc : ∀ x ∈ l, inT Tc x)
    (hs : s < 3) (hZ : Z.length = 3) (hse : (st.seen s).length ≤ 1000000) (h : At W w (pgT p Tc :: (pmxL y sr ss st ++ (boolA gd (List.replicate l.length false) :: ownA kk (List.replicate l.length 0) :: ownA on (List.replicate l.length 0) :: R))))
    (hS : ∀ L w', At W w' (L ++ R) → Ints .i64 w' sec secs) (hL : ∀ L w', At W w' (L ++ R) → Ints .i64 w' sl l) (hP : ∀ L w', At W w' (L ++ R) → Rw w' sp Z)
    (next : ∀ Tk ss' w', (Tk = T ∨ Tk = T1) → Ext Tc Tk → (l = [] → Tk = Tc) → (∀ x ∈ onS T1 (secs[s]?.getD 0) nw (st.seen s) l (rowP Z s) l.length, inT Tk x) →
      At W w' (pgT p Tk :: (pmxL y sr ss' (seenAt st s (openS T1 (secs[s]?.getD 0) (st.seen s) l l.length).2) ++ (boolA gd ((openS T1 (secs[s]?.getD 0) (st.seen s) l l.length).1.map Option.isSome) :: ownA kk ((openS T1 (secs[s]?.getD 0) (st.seen s) l l.length).1.map keyP) :: ownA on (onS T1 (secs[s]?.getD 0) nw (st.seen s) l (rowP Z s) l.length) :: R))) →
      trystref22_server.c3 RR (some p) (some y) s sec sl sp on kk gd w') :
    trystref22_server.l4 RR (some p) (some y) s sec sl sp on kk gd 0 w := by
  have hperm := hin.permin s hs
  have hg : Grown T T1 1 := by rw [← hT1]; obtain ⟨_, _, _, _, g⟩ := wordT_good (T := T) (by omega); exact g
  have hgl := hg.len
  unfold trystref22_server.l4
  refine ⟨fun t w' => ∃ (k : Nat) (Tk : List Tm) (ss' : Nat → Sl), t = k ∧ k ≤ l.length ∧ (Tk = T ∨ Tk = T1) ∧ Ext Tc Tk ∧ (l = [] → Tk = Tc) ∧ (∀ x ∈ onS T1 (secs[s]?.getD 0) nw (st.seen s) l (rowP Z s) k, inT Tk x) ∧
      At W w' (pgT p Tk :: (pmxL y sr ss' (seenAt st s (openS T1 (secs[s]?.getD 0) (st.seen s) l k).2) ++ (boolA gd ((openS T1 (secs[s]?.getD 0) (st.seen s) l k).1.map Option.isSome ++ List.replicate (l.length - k) false) :: ownA kk ((openS T1 (secs[s]?.getD 0) (st.seen s) l k).1.map keyP ++ List.replicate (l.length - k) 0) :: ownA on (onS T1 (secs[s]?.getD 0) nw (st.seen s) l (rowP Z s) k) :: R))),
    fun t _ => l.length - t.toNat, ⟨0, Tc, ss, rfl, Nat.zero_le _, hc, Ext.refl _, fun _ => rfl, fun x hx => ?_, ?_⟩, ?_⟩
  · have hx : x ∈ List.replicate l.length (0 : Int) := hx
    obtain ⟨hne, rfl⟩ := List.mem_replicate.1 hx
    have := hlc _ (getD_mem (l := l) (k := 0) (by omega))
    unfold inT at this ⊢
    omega
  · have e : pmxL y sr ss (seenAt st s (openS T1 (secs[s]?.getD 0) (st.seen s) l 0).2) = pmxL y sr ss st := pmxL_eq rfl (fun j _ => by show (if j = s then st.seen s else st.seen j) = st.seen j; split <;> simp_all) (fun _ _ => rfl)
    rw [e]
    exact h
  clear h
  rintro _ w1 ⟨k, Tk, ss', rfl, hk, hTk, hxk, hnil, hon, h1⟩
  have hokk : TOk Tk := h1.pok
  have hxT : Ext Tk T1 := by rcases hTk with rfl | rfl; exact hg.ext; exact Ext.refl _
  have hW := wdW hT (by omega) (Tk := Tk) (by rw [hT1]; exact hTk)
  rw [hT1, hnw] at hW
  unfold trystref22_server.b4
  have hlen : sl.len = l.length := (keepS (K := [_, _, _]) hL h1).len
  refine cond_d (p := ((k : Nat) : Int) < ((sl.len : Nat) : Int)) (fun hlt => ?_) fun hge => ?_
  · have hkl : k < l.length := by omega
    have hd := h1.drew
    have hI := keepS (K := [_, _, _]) hL hd
    obtain ⟨q, hq, hc1⟩ := hI.get (i := (k : Int)) (by omega) (by omega)
    have hsI := keepS (K := [_, _, _]) hS hd
    have hsl := hsI.len
    have hs3 := hin.secl
    obtain ⟨qc, hqc, hcc⟩ := hsI.get (i := (s : Int)) (by omega) (by omega)
    rw [Int.toNat_natCast] at hc1 hcc
    have ht : inT Tk (l[k]?.getD 0) := hxk.inT (hlc _ (getD_mem hkl))
    have hsk : inT Tk (secs[s]?.getD 0) := hxk.inT (hsc _ (getD_mem (by omega)))
    have hpl := hperm.1
    have hpk := hperm.2.1 _ (getD_mem (l := rowP Z s) (k := k) (by omega))
    have hol := onS_len (T := T1) (sec := secs[s]?.getD 0) (nw := nw) (seen := st.seen s) (l := l) (perm := rowP Z s) k
    have hopl := openS_len (T := T1) (sec := secs[s]?.getD 0) (seen := st.seen s) (l := l) k
    have hops := openS_seen (T := T1) (sec := secs[s]?.getD 0) (seen := st.seen s) (l := l) k
    have hfew := hin.few
    have hpe := peel_ext hokk hxT hsk ht
    have hKl : ((openS T1 (secs[s]?.getD 0) (st.seen s) l k).1.map keyP ++ List.replicate (l.length - k) 0).length = l.length := by rw [List.length_append, List.length_map, List.length_replicate]; omega
    have hGl : ((openS T1 (secs[s]?.getD 0) (st.seen s) l k).1.map Option.isSome ++ List.replicate (l.length - k) false).length = l.length := by rw [List.length_append, List.length_map, List.length_replicate]; omega
    have hse1 : (seenAt st s (openS T1 (secs[s]?.getD 0) (st.seen s) l k).2).seen s = (openS T1 (secs[s]?.getD 0) (st.seen s) l k).2 := if_pos rfl
    refine ⟨fun u => u = w1.drew, rfl, by omega, by omega, qc, hqc, _, fun u hu => by rw [hu, Int.toNat_natCast]; exact hcc, by omega, hlt, q, hq, _, fun u hu => by rw [hu, Int.toNat_natCast]; exact hc1, ?_⟩
    refine (rpeel_at hd (secs[s]?.getD 0) (l[k]?.getD 0)).mono ?_
    rintro _ w2 ⟨rfl, h2⟩
    -- what it will not open
    have bad : ∀ w', At W w' (pgT p T1 :: (pmxL y sr ss' (seenAt st s (openS T1 (secs[s]?.getD 0) (st.seen s) l k).2) ++ (boolA gd ((openS T1 (secs[s]?.getD 0) (st.seen s) l k).1.map Option.isSome ++ List.replicate (l.length - k) false) :: ownA kk ((openS T1 (secs[s]?.getD 0) (st.seen s) l k).1.map keyP ++ List.replicate (l.length - k) 0) :: ownA on (onS T1 (secs[s]?.getD 0) nw (st.seen s) l (rowP Z s) k) :: R))) →
        stepS T1 (secs[s]?.getD 0) (openS T1 (secs[s]?.getD 0) (st.seen s) l k).2 (l[k]?.getD 0) = (.none, (openS T1 (secs[s]?.getD 0) (st.seen s) l k).2) →
        trystref22_server.c5 RR (fun a0' st1' s2' secrets3' in4' perms5' list13' keys14' good15' i16' w' => (a0' = some p ∧ st1' = some y ∧ s2' = (s : Int) ∧ secrets3' = sec ∧ in4' = sl ∧ perms5' = sp ∧ list13' = on ∧ keys14' = kk ∧ good15' = gd ∧ ∃ (k : Nat) (Tk : List Tm) (ss' : Nat → Sl), i16' = k ∧ k ≤ l.length ∧ (Tk = T ∨ Tk = T1) ∧ Ext Tc Tk ∧ (l = [] → Tk = Tc) ∧ (∀ x ∈ onS T1 (secs[s]?.getD 0) nw (st.seen s) l (rowP Z s) k, inT Tk x) ∧
          At W w' (pgT p Tk :: (pmxL y sr ss' (seenAt st s (openS T1 (secs[s]?.getD 0) (st.seen s) l k).2) ++ (boolA gd ((openS T1 (secs[s]?.getD 0) (st.seen s) l k).1.map Option.isSome ++ List.replicate (l.length - k) false) :: ownA kk ((openS T1 (secs[s]?.getD 0) (st.seen s) l k).1.map keyP ++ List.replicate (l.length - k) 0) :: ownA on (onS T1 (secs[s]?.getD 0) nw (st.seen s) l (rowP Z s) k) :: R)))) ∧
          l.length - i16'.toNat < l.length - ((k : Nat) : Int).toNat) (some p) (some y) s sec sl sp on kk gd k nw w' := by
      intro w' h' hst
      refine rrd_c5 h' hP (by omega) (by omega) rfl hpk.1 (by omega) fun w3 h3 => ?_
      rw [inc (by omega)]
      have e1 : openS T1 (secs[s]?.getD 0) (st.seen s) l (k + 1) = ((openS T1 (secs[s]?.getD 0) (st.seen s) l k).1 ++ [.none], (openS T1 (secs[s]?.getD 0) (st.seen s) l k).2) := by
        show (_, _) = _; rw [hst]
      have e2 : onS T1 (secs[s]?.getD 0) nw (st.seen s) l (rowP Z s) (k + 1) = (onS T1 (secs[s]?.getD 0) nw (st.seen s) l (rowP Z s) k).set ((rowP Z s)[k]?.getD 0).toNat nw := by
        show (onS T1 (secs[s]?.getD 0) nw (st.seen s) l (rowP Z s) k).set _ _ = _; rw [hst]; rfl
      refine ⟨⟨rfl, rfl, rfl, rfl, rfl, rfl, rfl, rfl, rfl, k + 1, T1, ss', rfl, by omega, .inr rfl, hxk.trans hxT, fun h0 => by rw [h0] at hkl; exact absurd hkl (by simp), fun x hx => ?_, ?_⟩, by omega⟩
      · rw [e2] at hx
        rcases List.mem_or_eq_of_mem_set hx with hx | rfl
        · exact hxT.inT (hon x hx)
        · exact hin.nwin
      · rw [e1, e2]
        rw [keep_end (A := (openS T1 (secs[s]?.getD 0) (st.seen s) l k).1.map keyP) (by omega), keepB_end (by omega), show l.length - k - 1 = l.length - (k + 1) by omega] at h3
        rw [List.map_append, List.map_append]
        exact h3
    refine ⟨_, _, _, rfl, fun u => u = w2.drew, rfl, ?_⟩
    rw [← hpe]
    refine cond_e (fun he => ?_) fun hne => ?_
    · have hd2 := h2.drew
      obtain ⟨hcs, hIs⟩ := seen_cellP hd2 hs (by rw [hse1]; omega)
      have hI2 := keepS (K := [_, _, _]) hL hd2
      obtain ⟨q2, hq2, hc2⟩ := hI2.get (i := (k : Int)) (by omega) (by omega)
      rw [Int.toNat_natCast] at hc2
      refine ⟨y, rfl, by omega, by omega, _, _, _, fun u hu => by rw [hu, Int.toNat_natCast]; exact hcs, by omega, hlt, q2, hq2, _, fun u hu => by rw [hu, Int.toNat_natCast]; exact hc2, ?_⟩
      rw [hse1] at hIs
      refine (rhas2_spec (s := ss' s) hIs (l[k]?.getD 0)).mono ?_
      rintro _ _ ⟨rfl, rfl⟩
      refine ⟨_, rfl, cond_not (fun hout => ?_) fun hin2 => ?_⟩
      · have hout := of_decide_eq_false hout
        have hst : stepS T1 (secs[s]?.getD 0) (openS T1 (secs[s]?.getD 0) (st.seen s) l k).2 (l[k]?.getD 0) = (.some ((peelT T1 (secs[s]?.getD 0) (l[k]?.getD 0)).1, (peelT T1 (secs[s]?.getD 0) (l[k]?.getD 0)).2.1), (openS T1 (secs[s]?.getD 0) (st.seen s) l k).2 ++ [l[k]?.getD 0]) := by
          unfold stepS; rw [if_neg (fun hh => hh.elim (fun hh => hh he) hout)]
        refine rrd_c6 hd2 hP hL hkl (by omega) hs (by omega) (by omega) (by omega) rfl hpk.1 (by omega) (by rw [hse1]; omega) fun s' w3 h3 => ?_
        rw [inc (by omega)]
        have e1 : openS T1 (secs[s]?.getD 0) (st.seen s) l (k + 1) = ((openS T1 (secs[s]?.getD 0) (st.seen s) l k).1 ++ [.some ((peelT T1 (secs[s]?.getD 0) (l[k]?.getD 0)).1, (peelT T1 (secs[s]?.getD 0) (l[k]?.getD 0)).2.1)], (openS T1 (secs[s]?.getD 0) (st.seen s) l k).2 ++ [l[k]?.getD 0]) := by
          show (_, _) = _; rw [hst]
        have e2 : onS T1 (secs[s]?.getD 0) nw (st.seen s) l (rowP Z s) (k + 1) = (onS T1 (secs[s]?.getD 0) nw (st.seen s) l (rowP Z s) k).set ((rowP Z s)[k]?.getD 0).toNat (peelT T1 (secs[s]?.getD 0) (l[k]?.getD 0)).1 := by
          show (onS T1 (secs[s]?.getD 0) nw (st.seen s) l (rowP Z s) k).set _ _ = _; rw [hst]; rfl
        have e3 : pmxL y sr (fun j => if j = s then s' else ss' j) (seenAt (seenAt st s (openS T1 (secs[s]?.getD 0) (st.seen s) l k).2) s ((seenAt st s (openS T1 (secs[s]?.getD 0) (st.seen s) l k).2).seen s ++ [l[k]?.getD 0])) =
            pmxL y sr (fun j => if j = s then s' else ss' j) (seenAt st s ((openS T1 (secs[s]?.getD 0) (st.seen s) l k).2 ++ [l[k]?.getD 0])) :=
          pmxL_eq rfl (fun j _ => by rw [hse1]; show (if j = s then _ else if j = s then _ else _) = (if j = s then _ else _); split <;> rfl) (fun _ _ => rfl)
        refine ⟨⟨rfl, rfl, rfl, rfl, rfl, rfl, rfl, rfl, rfl, k + 1, Tk, fun j => if j = s then s' else ss' j, rfl, by omega, hTk, hxk, fun h0 => by rw [h0] at hkl; exact absurd hkl (by simp), fun x hx => ?_, ?_⟩, by (try dsimp only); omega⟩
        · rw [e2] at hx
          rcases List.mem_or_eq_of_mem_set hx with hx | rfl
          · exact hon x hx
          · rw [hpe]
            exact (peel_in hokk hsk ht (by rw [← hpe]; exact he)).1
        · rw [e1, e2]
          rw [set_at_end (A := (openS T1 (secs[s]?.getD 0) (st.seen s) l k).1.map keyP) (by omega) (by rw [List.length_map]; exact hopl), setB_at_end (by omega) (by rw [List.length_map]; exact hopl), show l.length - k - 1 = l.length - (k + 1) by omega, e3] at h3
          rw [List.map_append, List.map_append]
          exact h3
      · have hin2 := of_decide_eq_true hin2
        refine (rword 0 hd2).mono ?_
        rintro _ w3 ⟨rfl, h3⟩
        have h3 : At W w3 (pgT p (wordT Tk).1 :: _) := h3
        rw [hW.1] at h3
        refine ⟨_, rfl, ?_⟩
        show trystref22_server.c5 _ _ _ _ _ _ _ _ _ _ _ _ (wordT Tk).2.1 _
        rw [hW.2]
        refine bad w3 h3 ?_
        unfold stepS; rw [if_pos (.inr hin2)]
    · refine (rword 0 h2.drew).mono ?_
      rintro _ w3 ⟨rfl, h3⟩
      have h3 : At W w3 (pgT p (wordT Tk).1 :: _) := h3
      rw [hW.1] at h3
      refine ⟨_, rfl, ?_⟩
      show trystref22_server.c5 _ _ _ _ _ _ _ _ _ _ _ _ (wordT Tk).2.1 _
      rw [hW.2]
      refine bad w3 h3 ?_
      unfold stepS; rw [if_pos (.inl hne)]
  · have hkl : k = l.length := by omega
    subst hkl
    rw [Nat.sub_self, List.replicate_zero, List.replicate_zero, List.append_nil, List.append_nil] at h1
    exact next Tk ss' w1 hTk hxk hnil hon h1
end

end Go.Proofs.YtoclhecldmahiaaDoor

/-
  Rounds of servers, the page's: what is sealed back; the contract.
-/
set_option linter.unusedVariables false
set_option linter.unusedSimpArgs false
namespace Go.Proofs.YtoclhecldmahiaaDoor
open Go.Lf Go.RowKit

section
variable {W w w' : World} {L R Y : List Asn} {y p : Addr} {T Tk T1 T2 : List Tm} {nw : Int} {sec sp sr sl bk ot : Sl} {ss : Nat → Sl} {st : MxS} {Z : List (Sl × List Int)} {RR : Value → World → Prop} {on kk gd : Sl} {s k : Nat} {secs l back : List Int} {X : Asn} {os : List (Option (Int × Int))}

theorem At.poke0 (h : At W w L) (k : Nat) {q : Addr} {cs : List Value} (hk : L[k]? = some (boxA q cs)) (hj : 0 < cs.length) (u : Value) : Wr w q ∧ At W (w.setCell q u) (L.set k (boxA q (cs.set 0 u))) :=
  ⟨h.s.wr0 k hk hj, h.go2 (h.s.set0 k hk hj u)⟩

theorem rrd_b1 {N1 : Option Addr → Int → Sl → Sl → Sl → Sl → Sl → Sl → Int → World → Prop}
    (h : At W w (pgT p (sealS T2 (os.map keyO) (rowP Z s) back nw k).1 :: ownA ot ((sealS T2 (os.map keyO) (rowP Z s) back nw k).2 ++ List.replicate (os.length - k) 0) :: (pmxL y sr ss st ++ (ownA bk back :: boolA gd (os.map Option.isSome) :: ownA kk (os.map keyP) :: Y))))
    (hlen : sl.len = os.length) (hkn : k < os.length) (hs : s < Z.length) (hP : ∀ L w', At W w' (L ++ Y) → Rw w' sp Z) (hl2 : (sealS T2 (os.map keyO) (rowP Z s) back nw k).2.length = k)
    (hw : wordT (sealS T2 (os.map keyO) (rowP Z s) back nw k).1 = ((sealS T2 (os.map keyO) (rowP Z s) back nw k).1, nw, 0)) (hp : ∀ x ∈ rowP Z s, 0 ≤ x ∧ x < (back.length : Nat)) (hpl : (rowP Z s).length = os.length) (hbl : back.length ≤ 1000) (hol : os.length ≤ 1000) (hos : ∀ o ∈ os, ∀ z, o = some z → 0 ≤ z.2)
    (hN : ∀ w', At W w' (pgT p (sealS T2 (os.map keyO) (rowP Z s) back nw (k + 1)).1 :: ownA ot ((sealS T2 (os.map keyO) (rowP Z s) back nw (k + 1)).2 ++ List.replicate (os.length - (k + 1)) 0) :: (pmxL y sr ss st ++ (ownA bk back :: boolA gd (os.map Option.isSome) :: ownA kk (os.map keyP) :: Y))) →
      N1 (some p) s sl sp kk gd bk ot (IntKind.i64.wrap ((k : Int) + 1)) w') : trystref22_server.b1 RR N1 (some p) s sl sp kk gd bk ot k w := by
  unfold trystref22_server.b1
  obtain ⟨o, ho⟩ : ∃ o, os[k]? = some o := ⟨os[k], List.getElem?_eq_getElem hkn⟩
  have hom : o ∈ os := List.mem_of_getElem? ho
  have eK : (os.map keyO)[k]?.getD 0 = keyO o := by rw [List.getElem?_map, ho]; rfl
  have eP : (os.map keyP)[k]?.getD 0 = keyP o := by rw [List.getElem?_map, ho]; rfl
  have eG : (os.map Option.isSome)[k]?.getD false = o.isSome := by rw [List.getElem?_map, ho]; rfl
  refine cond_d (p := ((k : Nat) : Int) < ((sl.len : Nat) : Int)) (fun hlt => ?_) fun hge => absurd (by omega) hge
  refine (rword 0 h).mono ?_
  rintro _ w1 ⟨rfl, h1⟩
  have h1 : At W w1 (pgT p (wordT (sealS T2 (os.map keyO) (rowP Z s) back nw k).1).1 :: ownA ot ((sealS T2 (os.map keyO) (rowP Z s) back nw k).2 ++ List.replicate (os.length - k) 0) :: (pmxL y sr ss st ++ (ownA bk back :: boolA gd (os.map Option.isSome) :: ownA kk (os.map keyP) :: Y))) := h1
  refine ⟨(wordT (sealS T2 (os.map keyO) (rowP Z s) back nw k).1).2.1, rfl, ?_⟩
  rw [hw] at h1 ⊢
  dsimp only at h1 ⊢
  have hotl : ((sealS T2 (os.map keyO) (rowP Z s) back nw k).2 ++ List.replicate (os.length - k) 0).length = os.length := by rw [List.length_append, List.length_replicate]; omega
  have hot := h1.numLen 1 rfl
  obtain ⟨qo, hqo, _⟩ := h1.num 1 rfl (i := k) (by omega)
  obtain ⟨wr, h2⟩ := h1.setNum 1 rfl hqo (j := k) (by omega) nw
  have h2 : At W (w1.setCell (qo.add k) (.int .i64 nw)) (pgT p (sealS T2 (os.map keyO) (rowP Z s) back nw k).1 :: ownA ot (((sealS T2 (os.map keyO) (rowP Z s) back nw k).2 ++ List.replicate (os.length - k) 0).set k nw) :: (pmxL y sr ss st ++ (ownA bk back :: boolA gd (os.map Option.isSome) :: ownA kk (os.map keyP) :: Y))) := h2
  rw [set_at_end (by omega) hl2] at h2
  refine ⟨by omega, by omega, qo, hqo, wr, ?_⟩
  rw [Int.toNat_natCast]
  generalize w1.setCell (qo.add k) (.int .i64 nw) = w2 at h2 ⊢
  have hgl : gd.len = (os.map Option.isSome).length := (h2.s.rowLen 8 rfl).1
  rw [List.length_map] at hgl
  have hkl : kk.len = (os.map keyP).length := h2.numLen 9 rfl
  rw [List.length_map] at hkl
  have hbk : bk.len = back.length := h2.numLen 7 rfl
  obtain ⟨qg, hqg, hcg⟩ := h2.s.boolAt 8 rfl (j := k) (by rw [List.length_map]; exact hkn)
  rw [eG] at hcg
  refine ⟨by omega, by omega, qg, hqg, _, hcg, cond_c (fun hsome => ?_) fun hnone => ?_⟩
  · have hd := h2.drew
    have hrw : Rw w2.drew sp Z := hP (_ :: _ :: (pmxL y sr ss st ++ [_, _, _])) w2.drew (by simpa [List.append_assoc] using hd)
    have hrl := hrw.len
    obtain ⟨qa, qs, hqa, hca, hla, hqs, hcs⟩ := hrw.at_ hs (k := k) (by omega)
    have hpk := hp _ (getD_mem (l := rowP Z s) (k := k) (by omega))
    obtain ⟨qk, hqk, hck⟩ := (rowNow 9 rfl hd.s (by rw [List.length_map]; omega)).get (i := (k : Int)) (by omega) (by omega)
    obtain ⟨qb, hqb, hcb⟩ := (rowNow 7 rfl hd.s (by omega)).get (i := (rowP Z s)[k]?.getD 0) (by omega) (by omega)
    rw [Int.toNat_natCast, eP] at hck
    obtain ⟨z, rfl⟩ : ∃ z, o = some z := Option.isSome_iff_exists.1 hsome
    have hz0 : 0 ≤ z.2 := hos _ hom z rfl
    have ed : sealS T2 (os.map keyO) (rowP Z s) back nw (k + 1) = ((put (sealS T2 (os.map keyO) (rowP Z s) back nw k).1 ⟨6, 0, [z.2, back[((rowP Z s)[k]?.getD 0).toNat]?.getD 0]⟩).1, (sealS T2 (os.map keyO) (rowP Z s) back nw k).2 ++ [(put (sealS T2 (os.map keyO) (rowP Z s) back nw k).1 ⟨6, 0, [z.2, back[((rowP Z s)[k]?.getD 0).toNat]?.getD 0]⟩).2.1]) := by
      show (if 0 ≤ (os.map keyO)[k]?.getD 0 then _ else _) = _
      rw [eK, if_pos (show 0 ≤ keyO (some z) from hz0)]
      rfl
    refine ⟨fun u => u = w2.drew, rfl, by omega, by omega, qk, hqk, z.2, fun u hu => by rw [hu]; exact hck, by omega, by omega, qa, hqa, _, _, _, fun u hu => by rw [hu, Int.toNat_natCast]; exact hca, by omega, by omega, qs, hqs, _, fun u hu => by rw [hu]; exact hcs, by omega, by omega, qb, hqb, _, fun u hu => by rw [hu]; exact hcb, ?_⟩
    refine (rmk 6 0 [z.2, back[((rowP Z s)[k]?.getD 0).toNat]?.getD 0] hd (by simp)).mono ?_
    rintro _ w4 ⟨rfl, h4⟩
    obtain ⟨wr4, h5⟩ := h4.setNum 1 rfl hqo (j := k) (by rw [List.length_append, List.length_append, List.length_replicate]; simp; omega) (put (sealS T2 (os.map keyO) (rowP Z s) back nw k).1 ⟨6, 0, [z.2, back[((rowP Z s)[k]?.getD 0).toNat]?.getD 0]⟩).2.1
    refine ⟨_, rfl, by omega, by omega, qo, hqo, wr4, ?_⟩
    refine hN _ ?_
    rw [ed]
    have e2 : ((sealS T2 (os.map keyO) (rowP Z s) back nw k).2 ++ [nw] ++ List.replicate (os.length - k - 1) 0).set k (put (sealS T2 (os.map keyO) (rowP Z s) back nw k).1 ⟨6, 0, [z.2, back[((rowP Z s)[k]?.getD 0).toNat]?.getD 0]⟩).2.1 =
        (sealS T2 (os.map keyO) (rowP Z s) back nw k).2 ++ [(put (sealS T2 (os.map keyO) (rowP Z s) back nw k).1 ⟨6, 0, [z.2, back[((rowP Z s)[k]?.getD 0).toNat]?.getD 0]⟩).2.1] ++ List.replicate (os.length - (k + 1)) 0 := by
      rw [List.append_assoc, List.set_append, if_neg (by omega), hl2, Nat.sub_self]
      show _ ++ (_ :: _) = _
      rw [List.append_assoc]
      rfl
    have h5 : At W _ (pgT p (put (sealS T2 (os.map keyO) (rowP Z s) back nw k).1 ⟨6, 0, [z.2, back[((rowP Z s)[k]?.getD 0).toNat]?.getD 0]⟩).1 :: ownA ot (((sealS T2 (os.map keyO) (rowP Z s) back nw k).2 ++ [nw] ++ List.replicate (os.length - k - 1) 0).set k (put (sealS T2 (os.map keyO) (rowP Z s) back nw k).1 ⟨6, 0, [z.2, back[((rowP Z s)[k]?.getD 0).toNat]?.getD 0]⟩).2.1) :: (pmxL y sr ss st ++ (ownA bk back :: boolA gd (os.map Option.isSome) :: ownA kk (os.map keyP) :: Y))) := h5
    rw [e2] at h5
    exact h5
  · obtain rfl : o = none := by cases o with | none => rfl | some z => exact absurd hnone (by simp)
    have ed : sealS T2 (os.map keyO) (rowP Z s) back nw (k + 1) = ((sealS T2 (os.map keyO) (rowP Z s) back nw k).1, (sealS T2 (os.map keyO) (rowP Z s) back nw k).2 ++ [nw]) := by
      show (if 0 ≤ (os.map keyO)[k]?.getD 0 then _ else _) = _
      rw [eK, if_neg (show ¬ 0 ≤ keyO none by decide)]
    refine hN _ ?_
    rw [ed, show os.length - (k + 1) = os.length - k - 1 by omega]
    exact h2

/-- what a server of the page seals back -/
theorem rrd_c2 (hl : T2.length ≤ 900000) (hn : ∃ xw : Nat, nw = xw ∧ T2[xw]? = some ⟨2, 0, []⟩) (hk : ∀ x ∈ os.map keyO, 0 ≤ x → inT T2 x) (hb : ∀ x ∈ back, inT T2 x) (hp : ∀ x ∈ rowP Z s, 0 ≤ x ∧ x < (back.length : Nat)) (hpl : (rowP Z s).length = os.length) (hbl : back.length ≤ 1000) (hol : os.length ≤ 1000) (hos : ∀ o ∈ os, ∀ z, o = some z → 0 ≤ z.2)
    (hs : s < Z.length) (hlen : sl.len = os.length) (hP : ∀ L w', At W w' (L ++ Y) → Rw w' sp Z)
    (h : At W w (pgT p (if os.length = 0 then Tk else T2) :: (pmxL y sr ss st ++ (ownA bk back :: boolA gd (os.map Option.isSome) :: ownA kk (os.map keyP) :: Y))))
    (fin : ∀ so w', At W w' (pgT p (if os.length = 0 then Tk else (sealS T2 (os.map keyO) (rowP Z s) back nw os.length).1) :: ownA so (sealS T2 (os.map keyO) (rowP Z s) back nw os.length).2 :: (pmxL y sr ss st ++ (ownA bk back :: boolA gd (os.map Option.isSome) :: ownA kk (os.map keyP) :: Y))) → RR (.slice so.a so.len so.cap) w') :
    trystref22_server.c2 RR (some p) s sl sp kk gd bk w := by
  obtain ⟨xw, hnx, hxw⟩ := hn
  have hnin : inT T2 nw := by rw [hnx]; exact ⟨by omega, by have := (List.getElem?_eq_some_iff.1 hxw).1; omega⟩
  unfold trystref22_server.c2
  refine ⟨by omega, by omega, by omega, by omega, ?_⟩
  intro w6
  have h6 := h.zeros3 (n := sl.len) (by omega)
  have h6 : At W w6 (ownA ⟨some (newA w), sl.len, sl.len⟩ (List.replicate sl.len 0) :: (pgT p (if os.length = 0 then Tk else T2) :: (pmxL y sr ss st ++ (ownA bk back :: boolA gd (os.map Option.isSome) :: ownA kk (os.map keyP) :: Y)))) := h6
  clear_value w6
  have h6 := h6.swap
  rw [show List.replicate sl.len (0 : Int) = List.replicate os.length 0 by rw [hlen]] at h6
  show trystref22_server.l1 _ _ _ _ _ _ _ _ ⟨some (newA w), sl.len, sl.len⟩ _ _
  generalize (⟨some (newA w), sl.len, sl.len⟩ : Sl) = ot at h6 ⊢
  unfold trystref22_server.l1
  refine ⟨fun t w' => ∃ k : Nat, t = k ∧ k ≤ os.length ∧ At W w' (pgT p (if os.length = 0 then Tk else (sealS T2 (os.map keyO) (rowP Z s) back nw k).1) :: ownA ot ((sealS T2 (os.map keyO) (rowP Z s) back nw k).2 ++ List.replicate (os.length - k) 0) :: (pmxL y sr ss st ++ (ownA bk back :: boolA gd (os.map Option.isSome) :: ownA kk (os.map keyP) :: Y))), fun t _ => os.length - t.toNat,
    ⟨0, rfl, Nat.zero_le _, ?_⟩, ?_⟩
  · rw [show sealS T2 (os.map keyO) (rowP Z s) back nw 0 = (T2, []) from rfl, List.nil_append, Nat.sub_zero]
    exact h6
  clear h6
  rintro _ w1 ⟨k, rfl, hkk, h1⟩
  by_cases hlt : k < os.length
  · rw [if_neg (show ¬ os.length = 0 by omega)] at h1
    obtain ⟨g, e1, _, _⟩ := sealS_good (nw := nw) hl hnin hk hb hp (by rw [List.length_map]; exact hpl) k (by rw [List.length_map]; exact hkk) (by omega)
    have hgl := g.len
    have hw : wordT (sealS T2 (os.map keyO) (rowP Z s) back nw k).1 = ((sealS T2 (os.map keyO) (rowP Z s) back nw k).1, nw, 0) := by
      rw [hnx] at g ⊢
      exact put_there (by rw [← hnx]; exact h1.pok) (by rw [← hnx] at g ⊢; exact g.ext _ _ hxw) (err_word (by omega))
    refine rrd_b1 h1 hlen hlt hs hP e1 hw hp hpl hbl hol hos fun w' h' => ?_
    rw [inc (by omega)]
    refine ⟨⟨rfl, rfl, rfl, rfl, rfl, rfl, rfl, rfl, k + 1, rfl, by omega, ?_⟩, by (try dsimp only); omega⟩
    rw [if_neg (show ¬ os.length = 0 by omega)]
    exact h'
  · unfold trystref22_server.b1
    refine cond_d (p := ((k : Nat) : Int) < ((sl.len : Nat) : Int)) (fun h2 => absurd h2 (by omega)) fun _ => ?_
    have hke : k = os.length := by omega
    subst hke
    rw [Nat.sub_self, List.replicate_zero, List.append_nil] at h1
    exact fin ot w1 h1

/-- the servers of the page, from one on -/
def RSrv (W : World) (y p : Addr) (T T1 : List Tm) (nw : Int) (secs : List Int) (Z : List (Sl × List Int)) (sec sp : Sl) (d : Nat) : Prop :=
    ∀ {s : Nat} {w : World} {R : List Asn} {sr : Sl} {ss : Nat → Sl} {st : MxS} {l : List Int} {sl : Sl} {Tc : List Tm}, s + d = 2 → RdIn T1 nw secs (rowP Z) st l → (Tc = T ∨ Tc = T1) → (∀ x ∈ l, inT Tc x) → (∀ k, s ≤ k → k < 3 → (st.seen k).length ≤ 1000000) → st.regs.length ≤ 10000 →
    At W w (pgT p Tc :: (pmxL y sr ss st ++ R)) → (∀ L w', At W w' (L ++ R) → Ints .i64 w' sec secs) → (∀ L w', At W w' (L ++ R) → Ints .i64 w' sl l) → (∀ L w', At W w' (L ++ R) → Rw w' sp Z) →
    CallsV Tryd.prog n_trystref22_server #[.pointer (some p), .pointer (some y), .int .i64 s, sV sec, sV sl, sV sp] w fun v w' => ∃ (so sr' : Sl) (ss' : Nat → Sl), v = sV so ∧
      At W w' (pgT p (if l.length = 0 then Tc else (rndT T1 nw secs (rowP Z) (d + 1) s st l).1) :: (pmxL y sr' ss' (rndT T1 nw secs (rowP Z) (d + 1) s st l).2.1 ++ (ownA so (rndT T1 nw secs (rowP Z) (d + 1) s st l).2.2 :: R)))
theorem rsrv_step (hT : TOk T) (hTl : T.length ≤ 600000) (hT1 : (wordT T).1 = T1) (hnw : (wordT T).2.1 = nw) (hZ : Z.length = 3) (hscT : ∀ x ∈ secs, inT T x) (d : Nat) (ih : ∀ d', d = d' + 1 → RSrv W y p T T1 nw secs Z sec sp d') : RSrv W y p T T1 nw secs Z sec sp d := by
    intro s w R sr ss st l sl Tc hsd hin hc hlc hse hrl h hS hL hP
    have hs3 : s < 3 := by omega
    have hfew := hin.few
    have hlen : sl.len = l.length := (hL (pgT p Tc :: pmxL y sr ss st) w h).len
    have hperm := hin.permin s hs3
    have hpl := hperm.1
    have hg : Grown T T1 1 := by rw [← hT1]; obtain ⟨_, _, _, _, g⟩ := wordT_good (T := T) (by omega); exact g
    have hgl := hg.len
    have hscc : ∀ x ∈ secs, inT Tc x := fun x hx => by rcases hc with rfl | rfl; exact hscT x hx; exact hin.secin x hx
    have hW1 : (wordT T1).1 = T1 ∧ (wordT T1).2.1 = nw := by rw [hin.word]; exact ⟨rfl, rfl⟩
    refine trystref22_server.lift (a0 := some p) (st1 := some y) (s2 := s) (secrets3 := sec) (in4 := sl) (perms5 := sp) ?_
    unfold trystref22_server.main
    have hz : List.replicate sl.len (0 : Int) = List.replicate l.length 0 := by rw [hlen]
    have hzb : List.replicate sl.len false = List.replicate l.length false := by rw [hlen]
    refine ⟨by omega, by omega, by omega, by omega, ?_⟩
    intro w1
    have h1 := h.zeros3 (n := sl.len) (by omega)
    have h1 : At W w1 (ownA ⟨some (newA w), sl.len, sl.len⟩ (List.replicate sl.len 0) :: (pgT p Tc :: (pmxL y sr ss st ++ R))) := h1
    clear_value w1
    refine ⟨by omega, by omega, by omega, by omega, ?_⟩
    intro w2
    have h2 := h1.zeros3 (n := sl.len) (by omega)
    have h2 : At W w2 (ownA ⟨some (newA w1), sl.len, sl.len⟩ (List.replicate sl.len 0) :: ownA ⟨some (newA w), sl.len, sl.len⟩ (List.replicate sl.len 0) :: (pgT p Tc :: (pmxL y sr ss st ++ R))) := h2
    clear_value w2
    refine ⟨by omega, by omega, by omega, by omega, ?_⟩
    intro w3
    obtain ⟨h3s, b3⟩ := h2.s.bools (n := sl.len) (by omega)
    have h3 := h2.go h3s b3
    have h3 : At W w3 (boolA ⟨some (newA w2), sl.len, sl.len⟩ (List.replicate sl.len false) :: ownA ⟨some (newA w1), sl.len, sl.len⟩ (List.replicate sl.len 0) :: ownA ⟨some (newA w), sl.len, sl.len⟩ (List.replicate sl.len 0) :: (pgT p Tc :: (pmxL y sr ss st ++ R))) := h3
    clear_value w3
    rw [hz, hzb] at h3
    have h3 := h3.perm (permK (K := [_, _, _]))
    show trystref22_server.l4 _ (some p) (some y) s sec sl sp ⟨some (newA w), sl.len, sl.len⟩ ⟨some (newA w1), sl.len, sl.len⟩ ⟨some (newA w2), sl.len, sl.len⟩ 0 w3
    generalize (⟨some (newA w), sl.len, sl.len⟩ : Sl) = on at h3 ⊢
    generalize (⟨some (newA w1), sl.len, sl.len⟩ : Sl) = kk at h3 ⊢
    generalize (⟨some (newA w2), sl.len, sl.len⟩ : Sl) = gd at h3 ⊢
    refine rrd_l4 hT (by omega) hT1 hnw hin hc hscc hlc hs3 hZ (hse s (Nat.le_refl _) hs3) h3 hS hL hP fun Tk ss1 w4 hTk hxk hnil hon h4 => ?_
    have hW := wdW hT (by omega) (Tk := Tk) (by rw [hT1]; exact hTk)
    rw [hT1, hnw] at hW
    have hops := openS_seen (T := T1) (sec := secs[s]?.getD 0) (seen := st.seen s) (l := l) l.length
    have hopl := openS_len (T := T1) (sec := secs[s]?.getD 0) (seen := st.seen s) (l := l) l.length
    have honl := onS_len (T := T1) (sec := secs[s]?.getD 0) (nw := nw) (seen := st.seen s) (l := l) (perm := rowP Z s) l.length
    have hnx := hin.next hs3
    obtain ⟨g, r1, r2, r3⟩ := rnd_good d (s := s + 1) (by omega) hnx (by omega)
    have gl := g.len
    rw [onS_len] at r1
    -- what is sealed back
    have fin : ∀ {w' : World} {bk sr' : Sl} {ss' : Nat → Sl}, At W w' (pgT p (if l.length = 0 then Tk else (rndT T1 nw secs (rowP Z) d (s + 1) (seenAt st s (openS T1 (secs[s]?.getD 0) (st.seen s) l l.length).2) (onS T1 (secs[s]?.getD 0) nw (st.seen s) l (rowP Z s) l.length)).1) ::
        (pmxL y sr' ss' (rndT T1 nw secs (rowP Z) d (s + 1) (seenAt st s (openS T1 (secs[s]?.getD 0) (st.seen s) l l.length).2) (onS T1 (secs[s]?.getD 0) nw (st.seen s) l (rowP Z s) l.length)).2.1 ++
          (ownA bk (rndT T1 nw secs (rowP Z) d (s + 1) (seenAt st s (openS T1 (secs[s]?.getD 0) (st.seen s) l l.length).2) (onS T1 (secs[s]?.getD 0) nw (st.seen s) l (rowP Z s) l.length)).2.2 :: boolA gd ((openS T1 (secs[s]?.getD 0) (st.seen s) l l.length).1.map Option.isSome) :: ownA kk ((openS T1 (secs[s]?.getD 0) (st.seen s) l l.length).1.map keyP) :: ownA on (onS T1 (secs[s]?.getD 0) nw (st.seen s) l (rowP Z s) l.length) :: R))) →
        trystref22_server.c2 (fun v w' => ∃ (so sr' : Sl) (ss' : Nat → Sl), v = sV so ∧ At W w' (pgT p (if l.length = 0 then Tc else (rndT T1 nw secs (rowP Z) (d + 1) s st l).1) :: (pmxL y sr' ss' (rndT T1 nw secs (rowP Z) (d + 1) s st l).2.1 ++ (ownA so (rndT T1 nw secs (rowP Z) (d + 1) s st l).2.2 :: R)))) (some p) s sl sp kk gd bk w' := by
      intro w' bk sr' ss' h'
      obtain ⟨xw, q1, q2, q3, _⟩ := wordT_good (T := T) (by omega)
      rw [hT1] at q3
      rw [hnw] at q1
      have hif : ∀ A B : List Tm, (if (openS T1 (secs[s]?.getD 0) (st.seen s) l l.length).1.length = 0 then A else B) = (if l.length = 0 then A else B) := fun A B => by rw [hopl]
      have hif2 : ∀ B : List Tm, (if l.length = 0 then Tk else B) = (if l.length = 0 then Tc else B) := fun B => by
        by_cases h0 : l.length = 0
        · rw [if_pos h0, if_pos h0, hnil (List.length_eq_zero_iff.1 h0)]
        · rw [if_neg h0, if_neg h0]
      rw [← hif] at h'
      refine rrd_c2 (os := (openS T1 (secs[s]?.getD 0) (st.seen s) l l.length).1) (by omega) ⟨xw, q1, g.ext _ _ q3⟩ (fun x hx h0 => g.ext.inT (hin.keys hs3 x hx h0)) r2 (by rw [r1]; exact hperm.2.1) (by rw [hopl]; exact hpl) (by rw [r1]; omega) (by rw [hopl]; omega)
        (fun o ho z hz => (show 0 ≤ z.2 ∧ _ from (openS_in hin.ok (hin.sec hs3) hin.lin _ (Nat.le_refl _) o ho z hz).2).1) (by omega) (by rw [hopl]; exact hlen) (fun L w' hw => hP (L ++ [_]) w' (by rw [List.append_assoc]; exact hw)) h' fun so w2 h2 => ⟨so, sr', ss', rfl, ?_⟩
      have h3 := (((h2.less 7 rfl).less 7 rfl).less 7 rfl).less 7 rfl
      rw [hopl, hif2] at h3
      have h4 : At W w2 (pgT p (if l.length = 0 then Tc else (rndT T1 nw secs (rowP Z) (d + 1) s st l).1) :: ownA so (rndT T1 nw secs (rowP Z) (d + 1) s st l).2.2 :: (pmxL y sr' ss' (rndT T1 nw secs (rowP Z) (d + 1) s st l).2.1 ++ R)) := h3
      exact h4.perm (List.Perm.cons _ List.perm_middle.symm)
    unfold trystref22_server.c3
    refine cond_e (fun he => ?_) fun hne => ?_
    · obtain rfl : d = 0 := by omega
      refine ⟨y, rfl, _, _, _, h4.s.cell0 1 rfl rfl, ?_⟩
      refine (rdo_at h4 (s1 := sr) (s2 := on) (rs := st.regs) (l := onS T1 (secs[s]?.getD 0) nw (st.seen s) l (rowP Z s) l.length) hrl (by omega) (by have := hxk; rcases hTk with rfl | rfl <;> omega) (fun L w' hw => regNow 1 rfl hw.dropL.s) (fun L w' hw => rowNow 7 rfl hw.dropL.s (by omega)) hon).mono ?_
      rintro _ w5 ⟨t1, t2, rfl, h5⟩
      have hdo : doT Tk st.regs (onS T1 (secs[s]?.getD 0) nw (st.seen s) l (rowP Z s) l.length) = doT T1 st.regs (onS T1 (secs[s]?.getD 0) nw (st.seen s) l (rowP Z s) l.length) := by
        unfold doT; rw [hW.1, hW.2, hW1.1, hW1.2]
      have e : (if onS T1 (secs[s]?.getD 0) nw (st.seen s) l (rowP Z s) l.length = [] then Tk else T1) = if l.length = 0 then Tk else (wordT T1).1 := by
        rw [hW1.1]
        by_cases h0 : l.length = 0
        · rw [if_pos h0, if_pos (List.length_eq_zero_iff.1 (by rw [honl]; exact h0))]
        · rw [if_neg h0, if_neg (fun hh => h0 (by rw [← honl, hh]; rfl))]
      rw [hdo, hW.1, e] at h5
      obtain ⟨wr, h6⟩ := h5.poke0 3 rfl (by simp) (sV t1)
      refine ⟨_, _, _, _, _, _, rfl, y, rfl, wr, ?_⟩
      exact fin (((((h6.less 4 rfl).front 3 rfl).front 3 rfl)).perm (List.Perm.cons _ (List.Perm.cons _ (List.Perm.cons _ (List.perm_middle (l₁ := [_, _, _])).symm))))
    · obtain ⟨d, rfl⟩ : ∃ d', d = d' + 1 := ⟨d - 1, by omega⟩
      rw [inc (by omega)]
      refine (ih d rfl (s := s + 1) (R := boolA gd _ :: ownA kk _ :: ownA on _ :: R) (by omega) hnx hTk hon (fun k hk hk3 => ?_) hrl h4 (fun L w' hw => hS (L ++ [_, _, _]) w' (by rw [List.append_assoc]; exact hw)) (fun L w' hw => rowNow 2 rfl hw.dropL.s (by omega)) (fun L w' hw => hP (L ++ [_, _, _]) w' (by rw [List.append_assoc]; exact hw))).mono ?_
      · show (if k = s then _ else st.seen k).length ≤ _
        rw [if_neg (by omega)]
        exact hse k (by omega) hk3
      rintro _ w5 ⟨so, sr', ss', rfl, h5⟩
      refine ⟨_, _, _, rfl, ?_⟩
      rw [honl] at h5
      exact fin h5
theorem rsrv_at (hT : TOk T) (hTl : T.length ≤ 600000) (hT1 : (wordT T).1 = T1) (hnw : (wordT T).2.1 = nw) (hZ : Z.length = 3) (hscT : ∀ x ∈ secs, inT T x) : ∀ d, RSrv W y p T T1 nw secs Z sec sp d
  | 0 => rsrv_step hT hTl hT1 hnw hZ hscT 0 (fun _ h => by omega)
  | d + 1 => rsrv_step hT hTl hT1 hnw hZ hscT (d + 1) (fun d' h => by obtain rfl : d = d' := by omega
                                                                      exact rsrv_at hT hTl hT1 hnw hZ hscT d)
end

end Go.Proofs.YtoclhecldmahiaaDoor
