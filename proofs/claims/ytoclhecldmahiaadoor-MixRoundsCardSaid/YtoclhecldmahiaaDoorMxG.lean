/-
  What the page's last server does: contract.
-/
import Derived.Test.YtoclhecldmahiaaDoorMxA
import Derived.Test.YtoclhecldmahiaaDoorOnF
set_option linter.unusedVariables false
set_option linter.unusedVariables false
set_option linter.unusedSimpArgs false
namespace Go.Proofs.YtoclhecldmahiaaDoor
open Go.Lf Go.RowKit

/-- a payload's number, and its other terms; 0: it is none -/
def plOf (T : List Tm) (i : Int) : Int × List Int :=
  if (tmAt T i).kind ≠ 9 then (0, []) else if (tmAt T i).args.length < 1 then (0, []) else if (tmAt T (arg0 (tmAt T i))).kind ≠ 2 then (0, []) else
  ((tmAt T (arg0 (tmAt T i))).n, (tmAt T i).args.drop 1)
def plOk (x : Int × List Int) : Prop := ((x.1 = 71 ∨ x.1 = 73) ∧ x.2.length = 2) ∨ (x.1 = 72 ∧ x.2.length = 1)
instance (x : Int × List Int) : Decidable (plOk x) := by unfold plOk; infer_instance
theorem rqOf_pl (T : List Tm) (i : Int) : rqOf T i = if plOk (plOf T i) then plOf T i else (0, []) := by
  have z : ¬ plOk ((0, []) : Int × List Int) := by unfold plOk; simp
  unfold rqOf plOf
  by_cases h1 : (tmAt T i).kind ≠ 9
  · rw [if_pos h1, if_pos h1, if_neg z]
  rw [if_neg h1, if_neg h1]
  by_cases h2 : (tmAt T i).args.length < 1
  · rw [if_pos h2, if_pos (by omega), if_neg z]
  rw [if_neg h2]
  by_cases h3 : (tmAt T (arg0 (tmAt T i))).kind ≠ 2
  · rw [if_pos h3, if_pos h3, if_neg z]
    split <;> rfl
  rw [if_neg h3, if_neg h3]
  have hl : ((tmAt T i).args.drop 1).length = (tmAt T i).args.length - 1 := List.length_drop
  by_cases h4 : (tmAt T i).args.length < 2
  · rw [if_pos h4, if_neg]
    unfold plOk
    show ¬ (_ ∧ ((tmAt T i).args.drop 1).length = 2 ∨ _ ∧ ((tmAt T i).args.drop 1).length = 1)
    rintro (⟨_, h⟩ | ⟨_, h⟩) <;> omega
  rw [if_neg h4]
  unfold rqWord
  generalize (tmAt T (arg0 (tmAt T i))).n = n
  generalize (tmAt T i).args.drop 1 = rest
  by_cases h5 : plOk (n, rest)
  · rw [if_pos h5, if_neg]
    unfold plOk at h5
    simp only at h5
    rcases h5 with ⟨h5 | h5, h6⟩ | ⟨h5, h6⟩ <;> subst h5 <;> simp [h6]
  · rw [if_neg h5, if_pos]
    refine Classical.byContradiction fun hn => h5 ?_
    unfold plOk
    simp only
    rcases Int.lt_or_le n 71 with h | h
    · exact absurd (.inl h) hn
    rcases Int.lt_or_le 73 n with h' | h'
    · exact absurd (.inr (.inl h')) hn
    have : rest.length = if n = 72 then 1 else 2 := Classical.byContradiction fun hh => hn (.inr (.inr hh))
    by_cases h72 : n = 72
    · rw [if_pos h72] at this; exact .inr ⟨h72, this⟩
    · rw [if_neg h72] at this; exact .inl ⟨by omega, this⟩

theorem tmAt_ext {T T' : List Tm} (h : Ext T T') {i : Int} (hi : inT T i) : tmAt T' i = tmAt T i := by
  unfold inT at hi
  unfold tmAt
  have hl : i.toNat < T.length := by omega
  rw [h _ _ (List.getElem?_eq_getElem hl), List.getElem?_eq_getElem hl]
theorem arg0_in {T : List Tm} (hT : TOk T) {i : Int} (hi : inT T i) (hl : 1 ≤ (tmAt T i).args.length) : inT T (arg0 (tmAt T i)) := by
  have hlt : i.toNat < T.length := by unfold inT at hi; omega
  have e : T[i.toNat]? = some (tmAt T i) := by unfold tmAt; rw [List.getElem?_eq_getElem hlt]; rfl
  have := hT.argsAt e (arg0 (tmAt T i)) (by
    show (tmAt T i).args[0]?.getD 0 ∈ (tmAt T i).args
    rw [List.getElem?_eq_getElem (by omega)]; exact List.getElem_mem _)
  unfold inT; omega
theorem plOf_ext {T T' : List Tm} (hT : TOk T) (h : Ext T T') {i : Int} (hi : inT T i) : plOf T' i = plOf T i := by
  unfold plOf
  rw [tmAt_ext h hi]
  split
  · rfl
  · split
    · rfl
    · rename_i h2
      rw [tmAt_ext h (arg0_in hT hi (by omega))]
theorem wordT_again {T : List Tm} (hT : TOk T) (hl : T.length ≤ 1000000) : wordT (wordT T).1 = wordT T := by
  obtain ⟨x, h1, h2, h3, hg⟩ := wordT_good hl
  have hok : TOk (wordT T).1 := hT.put _
  have := put_there hok h3 (err_word (by omega))
  show put (wordT T).1 ⟨2, 0, []⟩ = wordT T
  rw [this, ← h1, ← h2]

section
variable {W w w' : World} {L R : List Asn} {p : Addr} {N : Nds} {s : Sl} {rs : List Rg} {T : List Tm}

theorem pgArgs {B : Nat} (h : Sep B w (pgA p N :: R)) {i : Nat} {x : Tm × Sl} (hx : N[i]? = some x) : Ints .i64 w x.2 x.1.args ∧ x.2.len ≤ x.2.cap := by
  obtain ⟨sl, ⟨hok, hcaps⟩, hS⟩ := h.unfold
  have hS : Sep B w (pgL 98 p N sl ++ R) := hS
  exact ⟨argsAt 2 rfl hS hx, hcaps x (List.mem_of_getElem? hx)⟩

/-- what reads as numbers as long as the page's arena stands -/
def InP (p : Addr) (N : Nds) (s : Sl) (xs : List Int) : Prop := ∀ more B w R, Sep B w (pgA p (N ++ more) :: R) → Ints .i64 w s xs
theorem InP.more {more : Nds} {xs : List Int} (h : InP p N s xs) : InP p (N ++ more) s xs := fun m B w R hs => h (more ++ m) B w R (by rw [← List.append_assoc]; exact hs)

theorem rmakeN (h : At W w (pgA p N :: R)) {t : Tm} {s : Sl} (hI : ∀ X w', Sep W.heap.size w' (X :: R) → Below W.heap.size w w' → Ints .i64 w' s t.args) :
    CallsV Tryd.prog n_trystref10_Arena_Make #[.pointer (some p), .int .i64 t.kind, .int .i64 t.n, .slice s.a s.len s.cap] w fun v w' => ∃ more, v = .int .i64 (put (terms N) t).2.1 ∧ terms (N ++ more) = (put (terms N) t).1 ∧ At W w' (pgA p (N ++ more) :: R) := by
  refine trystref10_Arena_Make.lift ?_
  unfold trystref10_Arena_Make.main
  refine (rput_spec h.s hI).mono ?_
  rintro _ w' ⟨more, rfl, e, hs', hb⟩
  exact ⟨_, _, rfl, more, rfl, e, h.go hs' hb⟩

theorem rwordN (n : Int) (h : At W w (pgA p N :: R)) :
    CallsV Tryd.prog n_trystref10_Arena_Word #[.pointer (some p), .int .i64 n] w fun v w' => ∃ more, v = .int .i64 (put (terms N) ⟨2, n, []⟩).2.1 ∧ terms (N ++ more) = (put (terms N) ⟨2, n, []⟩).1 ∧ At W w' (pgA p (N ++ more) :: R) := by
  refine trystref10_Arena_Word.lift ?_
  unfold trystref10_Arena_Word.main
  refine (rmakeN (t := ⟨2, n, []⟩) (s := ⟨none, 0, 0⟩) h fun _ _ _ _ => Ints.nil).mono ?_
  rintro _ w' ⟨more, rfl, e, h'⟩
  exact ⟨_, rfl, more, rfl, e, h'⟩

set_option maxRecDepth 100000 in
theorem payload_at {i : Int} (h : At W w (pgA p N :: R)) (hi : inT (terms N) i) :
    CallsV Tryd.prog n_trystref22_payload #[.pointer (some p), .int .i64 i] w fun v w' => ∃ sl : Sl, v = .tuple #[.slice sl.a sl.len sl.cap, .int .i64 (plOf (terms N) i).1] ∧ InP p N sl (plOf (terms N) i).2 ∧ At W w' (pgA p N :: R) := by
  refine trystref22_payload.lift ?_
  unfold trystref22_payload.main
  have hok := pgOk h.s
  generalize hRR : (fun (v : Value) (w' : World) => ∃ sl : Sl, v = .tuple #[.slice sl.a sl.len sl.cap, .int .i64 (plOf (terms N) i).1] ∧ InP p N sl (plOf (terms N) i).2 ∧ At W w' (pgA p N :: R)) = RR
  have none_ : ∀ {w' : World} {X : Asn}, At W w' (X :: pgA p N :: R) → plOf (terms N) i = (0, []) → RR (.tuple #[.slice none 0 0, .int .i64 0]) w'.drew := by
    intro w' X h' he
    rw [← hRR]
    show ∃ sl : Sl, _
    rw [he]
    exact ⟨⟨none, 0, 0⟩, rfl, fun _ _ _ _ _ => Ints.nil, h'.drop.drew⟩
  obtain ⟨sl, hN⟩ := at_in hi
  have hlen : (terms N).length = N.length := terms_len N
  have hi' := hi
  unfold inT at hi'
  obtain ⟨ba, bc, hc, hn⟩ := pg_at h.s
  obtain ⟨q, hq, c0, c1, c2, _⟩ := hn _ _ hN
  refine ⟨p, rfl, _, _, _, hc, by omega, by omega, q, hq, _, c0, _, c1, _, _, _, c2, ?_⟩
  intro w1
  obtain ⟨k1, k2⟩ := h.tmp 98 (zs := [.int .i64 0, .int .i64 0, .slice none 0 0]) (cs := [.int .i64 (tmAt (terms N) i).kind, .int .i64 (tmAt (terms N) i).n, .slice sl.a sl.len sl.cap]) rfl
  refine ⟨k1, ?_⟩
  intro w2
  have h2 : At W w2 (boxA (newA w) [.int .i64 (tmAt (terms N) i).kind, .int .i64 (tmAt (terms N) i).n, .slice sl.a sl.len sl.cap] :: pgA p N :: R) := k2
  clear_value w2
  generalize newA w = tb at h2 ⊢
  obtain ⟨hI, hcap⟩ := pgArgs h2.s.drop hN
  have hI : Ints .i64 w2 sl (tmAt (terms N) i).args := hI
  have hcap : sl.len ≤ sl.cap := hcap
  have hIl := hI.len
  refine ⟨_, h2.s.cell0 0 rfl rfl, cond_n (fun hk => none_ h2 (by unfold plOf; rw [if_pos hk])) fun hk => ⟨_, _, _, h2.s.cell 0 rfl 2 rfl, cond_d (fun hl => none_ h2 (by unfold plOf; rw [if_neg (fun h => h hk), if_pos (by omega)])) fun hl => ?_⟩⟩
  obtain ⟨ba2, bc2, hc2, hn2⟩ := pg_at h2.s.drop
  obtain ⟨q0, hq0, hc0⟩ := hI.get (i := 0) (by omega) (by omega)
  have ha0 : (tmAt (terms N) i).args[(0 : Int).toNat]?.getD 0 = arg0 (tmAt (terms N) i) := rfl
  rw [ha0] at hc0
  have hin0 := arg0_in hok hi (by omega)
  obtain ⟨sl2, hN2⟩ := at_in hin0
  obtain ⟨q2, hq2, d0, d1, d2, _⟩ := hn2 _ _ hN2
  have hin0' := hin0
  unfold inT at hin0'
  refine ⟨p, rfl, _, _, _, hc2, _, _, _, h2.s.cell 0 rfl 2 rfl, by omega, by omega, q0, hq0, _, hc0, by omega, by omega, q2, hq2, _, d0, cond_n (fun hk2 => none_ h2 (by unfold plOf; rw [if_neg (fun h => h hk), if_neg (by omega), if_pos hk2])) fun hk2 => ?_⟩
  unfold trystref22_payload.c1
  have h3 := h2.drew
  obtain ⟨ba3, bc3, hc3, hn3⟩ := pg_at h3.s.drop
  obtain ⟨q3, hq3, e0, e1, e2, _⟩ := hn3 _ _ hN2
  obtain ⟨hI3, _⟩ := pgArgs h3.s.drop hN
  have hI3 : Ints .i64 w2.drew sl (tmAt (terms N) i).args := hI3
  obtain ⟨q4, hq4, hc4⟩ := hI3.get (i := 0) (by omega) (by omega)
  rw [ha0] at hc4
  refine ⟨_, _, _, h3.s.cell 0 rfl 2 rfl, by omega, by omega, by omega, by omega, p, rfl, _, _, _, hc3, _, _, _, h3.s.cell 0 rfl 2 rfl, by omega, by omega, q4, hq4, _, hc4, by omega, by omega, q3, hq3, _, e1, ?_⟩
  rw [← hRR]
  have he : plOf (terms N) i = ((tmAt (terms N) (arg0 (tmAt (terms N) i))).n, (tmAt (terms N) i).args.drop 1) := by
    unfold plOf; rw [if_neg (fun h => h hk), if_neg (by omega), if_neg (fun h => h hk2)]
  show ∃ sl' : Sl, _
  rw [he]
  refine ⟨⟨if sl.cap = 1 then sl.a else sl.a.map (·.add 1), sl.len - 1, sl.cap - 1⟩, rfl, fun more B y R hs => ?_, h3.drop.drew⟩
  have hN' : (N ++ more)[i.toNat]? = some (tmAt (terms N) i, sl) := by
    rw [List.getElem?_append_left (List.getElem?_eq_some_iff.1 hN).1]; exact hN
  have hI4 : Ints .i64 y sl (tmAt (terms N) i).args := (pgArgs hs hN').1
  exact hI4.drop (by omega) hcap

theorem value_at (k : Nat) (hk : L[k]? = some (regA s rs)) (h : At W w L) (id : Int) (hl : rs.length ≤ 1000000) :
    CallsV Tryd.prog n_trystref22_value #[.slice s.a s.len s.cap, .int .i64 id] w fun v w' => v = .tuple #[.int .i64 (valT 0 rs id), .bool (hasId rs id)] ∧ At W w' L := by
  refine trystref22_value.lift ?_
  unfold trystref22_value.main trystref22_value.l1
  have hlen := (h.regs k hk).len
  refine ⟨fun t w' => ∃ j : Nat, t = j ∧ j ≤ rs.length ∧ (∀ g ∈ rs.take j, (g.1 == id) = false) ∧ At W w' L, fun t _ => rs.length - t.toNat, ⟨0, rfl, by omega, by simp, h⟩, ?_⟩
  rintro _ w2 ⟨j, rfl, hj, hall, h2⟩
  unfold trystref22_value.b1
  obtain ⟨i1, i2, i3⟩ := idxOf_has rs id
  refine cond_d (p := ((j : Nat) : Int) < ((s.len : Nat) : Int)) (fun hlt => ?_) fun hge => ?_
  · have hj' : j < rs.length := by omega
    obtain ⟨q, hq, c1, c2⟩ := (h2.regs k hk).cell j rs[j] (List.getElem?_eq_getElem hj')
    refine ⟨by omega, hlt, q, hq, _, by rw [Int.toNat_natCast]; exact c1, cond_c (fun he => ⟨by omega, hlt, q, hq, _, by rw [Int.toNat_natCast]; exact c2, ?_, h2⟩) fun he => ?_⟩
    · have e := idxOf_some hj' he hall
      obtain ⟨g, hg, hv⟩ := i3 (by omega)
      rw [e, Int.toNat_natCast, List.getElem?_eq_getElem hj'] at hg
      obtain rfl := Option.some.inj hg
      rw [hv, i1.1 (by omega)]
    · dsimp only
      rw [inc (by omega)]
      refine ⟨⟨rfl, rfl, j + 1, rfl, by omega, fun g hg => ?_, h2⟩, by omega⟩
      rw [List.take_succ_eq_append_getElem hj', List.mem_append, List.mem_singleton] at hg
      rcases hg with hg | rfl
      · exact hall g hg
      · exact he
  · rw [List.take_of_length_le (by omega)] at hall
    have e := idxOf_none hall
    refine ⟨?_, h2⟩
    rw [i2 (by omega)]
    have : hasId rs id = false := by
      cases hh : hasId rs id with
      | false => rfl
      | true => have := i1.2 hh; omega
    rw [this]

theorem rq_at {Q : List Rq} {j : Nat} (h : j < Q.length) : rq Q j = Q[j] := by unfold rq; rw [List.getElem?_eq_getElem h]; rfl

set_option maxRecDepth 100000 in
theorem rdo_at (h : At W w (pgT p T :: R)) {s1 s2 : Sl} {l : List Int} (hrl : rs.length ≤ 10000) (hll : l.length ≤ 100000) (hTl : T.length ≤ 1000000) (hR : ∀ L w', At W w' (L ++ R) → Regs w' s1 rs) (hL : ∀ L w', At W w' (L ++ R) → Ints .i64 w' s2 l) (hin : ∀ x ∈ l, inT T x) :
    CallsV Tryd.prog n_trystref22_Do #[.pointer (some p), .slice s1.a s1.len s1.cap, .slice s2.a s2.len s2.cap] w fun v w' => ∃ t1 t2 : Sl, v = .tuple #[.slice t1.a t1.len t1.cap, .slice t2.a t2.len t2.cap] ∧
      At W w' (regA t1 (doT T rs l).1 :: ownA t2 (doT T rs l).2 :: pgT p (if l = [] then T else (wordT T).1) :: R) := by
  refine trystref22_Do.lift ?_
  unfold trystref22_Do.main
  have hlen := (hL [_] w h).len
  have hok := h.pok
  refine (twin_regs h (hR [_] w h) (by omega)).mono ?_
  rintro _ w1 ⟨s3, rfl, h1⟩
  refine ⟨_, _, _, rfl, ?_⟩
  obtain ⟨nx, n1, n2, n3, ng⟩ := wordT_good hTl
  obtain ⟨nw, hnw⟩ : ∃ nw, nw = (wordT T).2.1 := ⟨_, rfl⟩
  obtain ⟨T1, hT1⟩ : ∃ T1, T1 = (wordT T).1 := ⟨_, rfl⟩
  have hext : Ext T T1 := by rw [hT1]; exact ng.ext
  have hok1 : TOk T1 := by rw [hT1]; exact hok.put _
  obtain ⟨Q, hQ⟩ : ∃ Q, Q = l.map (rqOf T1) := ⟨_, rfl⟩
  have hQl : Q.length = l.length := by rw [hQ, List.length_map]
  have hdo : doT T rs l = doS nw Q rs l.length := by rw [hnw, hQ, hT1]; rfl
  rw [hdo]
  obtain ⟨N0, hN0, hs0⟩ := Sep.pgOut (h1.s.front 1 rfl)
  have h2 : At W w1 (regA s3 (doS nw Q rs 0).1 :: ownA ⟨none, 0, 0⟩ (doS nw Q rs 0).2 :: pgA p N0 :: R) := by
    have := h1.go hs0 (Below.refl _ _)
    have this : At W w1 (pgA p N0 :: regA s3 rs :: R) := this
    exact this.swap.nil.swap
  generalize hRR : (fun (v : Value) (w' : World) => ∃ t1 t2 : Sl, v = .tuple #[.slice t1.a t1.len t1.cap, .slice t2.a t2.len t2.cap] ∧
      At W w' (regA t1 (doS nw Q rs l.length).1 :: ownA t2 (doS nw Q rs l.length).2 :: pgT p (if l = [] then T else (wordT T).1) :: R)) = RR
  unfold trystref22_Do.l2
  refine ⟨fun x w' => ∃ (i : Nat) (N : Nds), x.2.2 = i ∧ i ≤ l.length ∧ terms N = (if i = 0 then T else T1) ∧ At W w' (regA x.1 (doS nw Q rs i).1 :: ownA x.2.1 (doS nw Q rs i).2 :: pgA p N :: R), fun x _ => l.length - x.2.2.toNat, ⟨0, N0, rfl, Nat.zero_le _, hN0, h2⟩, ?_⟩
  clear h2 hs0 h1
  rintro ⟨sr, so, _⟩ w2 ⟨i, N, rfl, hi, hN, h2⟩
  show trystref22_Do.b2 RR _ (some p) s2 sr so (i : Int) w2
  have h2 : At W w2 (regA sr (doS nw Q rs i).1 :: ownA so (doS nw Q rs i).2 :: pgA p N :: R) := h2
  unfold trystref22_Do.b2
  obtain ⟨d1, d2⟩ := doS_len nw Q rs i
  refine cond_d (p := ((i : Nat) : Int) < ((s2.len : Nat) : Int)) (fun hlt => ?_) fun hge => ?_
  · have hil : i < l.length := by omega
    have hintL : ∀ {y : World} {X : List Asn}, At W y (X ++ R) → ∀ (j : Nat) (hj : j < l.length), ∃ q, s2.a = some q ∧ y.cell? (q.add (j : Int).toNat) = some (.int .i64 l[j]) := by
      intro y X hy j hj
      obtain ⟨q, hq, hc⟩ := (hL X y hy).get (i := (j : Int)) (by omega) (by omega)
      rw [Int.toNat_natCast, List.getElem?_eq_getElem hj, Option.getD_some] at hc
      exact ⟨q, hq, by rw [Int.toNat_natCast]; exact hc⟩
    obtain ⟨q, hq, hc⟩ := hintL (X := [_, _, _]) h2 i hil
    have hinN : ∀ x ∈ l, inT (terms N) x := fun x hx => by
      rw [hN]; split
      · exact hin x hx
      · exact hext.inT (hin x hx)
    have hin1 : ∀ x ∈ l, inT T1 x := fun x hx => hext.inT (hin x hx)
    have epl : plOf (terms N) l[i] = plOf T1 l[i] := by
      rw [hN]; split
      · exact (plOf_ext hok hext (hin _ (List.getElem_mem hil))).symm
      · rfl
    refine ⟨by omega, hlt, q, hq, _, hc, (payload_at (h2.front 2 rfl) (hinN _ (List.getElem_mem hil))).mono ?_⟩
    rintro _ w3 ⟨sx, rfl, hx, h3⟩
    rw [epl] at hx ⊢
    refine ⟨_, _, _, _, rfl, (rwordN 0 h3).mono ?_⟩
    rintro _ w4 ⟨more, rfl, hN4, h4⟩
    have hput : (put (terms N) ⟨2, 0, []⟩) = wordT T := by
      rw [hN]
      split
      · rfl
      · rw [hT1]; exact wordT_again hok hTl
    rw [hput, ← hT1] at hN4
    rw [hput, ← hnw]
    refine ⟨_, rfl, ?_⟩
    have h4 : At W w4 (pgA p (N ++ more) :: regA sr (doS nw Q rs i).1 :: ownA so (doS nw Q rs i).2 :: R) := h4
    have hx := hx.more (more := more)
    generalize N ++ more = N4 at hN4 h4 hx
    clear h3 h2
    have erq : rq Q i = if plOk (plOf T1 l[i]) then plOf T1 l[i] else (0, []) := by
      rw [rq_at (by omega)]
      subst hQ
      rw [List.getElem_map, rqOf_pl]
    have hst : ∀ {y : World} {X : List Asn} {xs : List Int} {z : Sl}, InP p N4 z xs → At W y (pgA p N4 :: X) → Ints .i64 y z xs := fun hz hy => hz [] _ _ _ (by rw [List.append_nil]; exact hy.s)
    -- the answer is told
    have c3 : ∀ (w' : World) (sr1 : Sl) (v : Int) (rs1 : List Rg), At W w' (pgA p N4 :: regA sr1 rs1 :: ownA so (doS nw Q rs i).2 :: R) → ansT nw Q (doS nw Q rs i).1 i = (rs1, v) →
        trystref22_Do.c3 RR (fun a0' l2' next8' out9' i10' w' => (a0' = some p ∧ l2' = s2 ∧ ∃ (i : Nat) (N : Nds), i10' = i ∧ i ≤ l.length ∧ terms N = (if i = 0 then T else T1) ∧ At W w' (regA next8' (doS nw Q rs i).1 :: ownA out9' (doS nw Q rs i).2 :: pgA p N :: R)) ∧ l.length - i10'.toNat < l.length - (i : Int).toNat) (some p) s2 sr1 so (i : Int) v w' := by
      intro w' sr1 v rs1 h' he
      unfold trystref22_Do.c3
      intro w5
      obtain ⟨s6, w6, r6, h6⟩ := more_at 2 rfl h' v (by omega)
      refine ⟨_, _, _, w6, r6, ?_⟩
      dsimp only
      rw [inc (by omega)]
      refine ⟨⟨rfl, rfl, i + 1, N4, rfl, by omega, by rw [if_neg (by omega)]; exact hN4, ?_⟩, by omega⟩
      have e1 : (doS nw Q rs (i + 1)).1 = rs1 := by show (ansT nw Q (doS nw Q rs i).1 i).1 = rs1; rw [he]
      have e2 : (doS nw Q rs (i + 1)).2 = (doS nw Q rs i).2 ++ [v] := by show (doS nw Q rs i).2 ++ [(ansT nw Q (doS nw Q rs i).1 i).2] = _; rw [he]
      show At W w6 (regA sr1 (doS nw Q rs (i + 1)).1 :: ownA s6 (doS nw Q rs (i + 1)).2 :: pgA p N4 :: R)
      rw [e1, e2]
      have h6 : At W w6 (pgA p N4 :: regA sr1 rs1 :: ownA s6 ((doS nw Q rs i).2 ++ [v]) :: R) := h6
      exact (h6.front 2 rfl).front 2 rfl
    generalize hpl : plOf T1 l[i] = pl at hx erq ⊢
    obtain ⟨kd, rest⟩ := pl
    have hxl : sx.len = rest.length := (hst hx h4).len
    have hxat : ∀ {y : World} {X : List Asn}, At W y (pgA p N4 :: X) → ∀ (j : Nat), j < rest.length → ∃ q, sx.a = some q ∧ y.cell? (q.add (j : Int).toNat) = some (.int .i64 (rest[j]?.getD 0)) := by
      intro y X hy j hj
      obtain ⟨q, hq, hc⟩ := (hst hx hy).get (i := (j : Int)) (by omega) (by omega)
      exact ⟨q, hq, by rw [Int.toNat_natCast] at hc ⊢; exact hc⟩
    -- nothing to be done
    have hnone : ¬ plOk (kd, rest) → trystref22_Do.c3 RR _ (some p) s2 sr so (i : Int) nw w4 := fun hno => c3 w4 sr nw _ h4 (by
      rw [if_neg hno] at erq
      unfold ansT; rw [erq, if_neg (by decide), if_neg (by decide), if_neg (by decide)])
    -- a register is written, or read
    have c10 : plOk (kd, rest) → (kd = 71 ∨ kd = 72) → trystref22_Do.c10 RR (fun a0' l2' next8' out9' i10' w' => (a0' = some p ∧ l2' = s2 ∧ ∃ (i : Nat) (N : Nds), i10' = i ∧ i ≤ l.length ∧ terms N = (if i = 0 then T else T1) ∧ At W w' (regA next8' (doS nw Q rs i).1 :: ownA out9' (doS nw Q rs i).2 :: pgA p N :: R)) ∧ l.length - i10'.toNat < l.length - (i : Int).toNat) (some p) s2 sr so (i : Int) sx kd nw w4 := by
      intro hyes hkd
      rw [if_pos hyes] at erq
      have hrl1 : 1 ≤ rest.length := by
        unfold plOk at hyes
        simp only at hyes
        omega
      have eid : rqId Q i = rest[0]?.getD 0 := by unfold rqId; rw [erq]
      have ev : rqV Q i = rest[1]?.getD 0 := by unfold rqV; rw [erq]
      unfold trystref22_Do.c10
      obtain ⟨q0, hq0, hc0⟩ := hxat h4 0 (by omega)
      refine ⟨by omega, by omega, q0, hq0, _, hc0, (value_at 1 rfl h4 _ (by omega)).mono ?_⟩
      rintro _ w5 ⟨rfl, h5⟩
      rw [← eid]
      obtain ⟨i1, i2, i3⟩ := idxOf_has (doS nw Q rs i).1 (rqId Q i)
      refine ⟨_, _, rfl, cond_not (fun hf => ?_) fun ht => ?_⟩
      · have hv : valT nw (doS nw Q rs i).1 (rqId Q i) = nw := i2 (by
          rcases Int.lt_or_le (idxOf (doS nw Q rs i).1 (rqId Q i)) 0 with h | h
          · exact h
          · rw [i1.1 (by omega)] at hf; cases hf) nw
        refine cond_e (fun h71 => ?_) fun h71 => ?_
        · have hrl2 : rest.length = 2 := by
            unfold plOk at hyes
            simp only at hyes
            omega
          unfold trystref22_Do.c5
          have h6 := h5.drew
          obtain ⟨q2, hq2, hc2⟩ := hxat h6 0 (by omega)
          obtain ⟨q3, hq3, hc3⟩ := hxat h6 1 (by omega)
          have cells : ∀ {y : World}, At W y (pgA p N4 :: regA sr (doS nw Q rs i).1 :: ownA so (doS nw Q rs i).2 :: R) → y.cell? (q2.add (0 : Int).toNat) = some (.int .i64 (rqId Q i)) ∧ y.cell? (q3.add (1 : Int).toNat) = some (.int .i64 (rqV Q i)) := by
            intro y hy
            obtain ⟨r2, hr2, e2⟩ := hxat hy 0 (by omega)
            obtain ⟨r3, hr3, e3⟩ := hxat hy 1 (by omega)
            rw [hq2] at hr2
            rw [hq3] at hr3
            obtain rfl := Option.some.inj hr2
            obtain rfl := Option.some.inj hr3
            rw [eid, ev]
            exact ⟨e2, e3⟩
          refine ⟨fun y => y.cell? (q2.add (0 : Int).toNat) = some (.int .i64 (rqId Q i)) ∧ y.cell? (q3.add (1 : Int).toNat) = some (.int .i64 (rqV Q i)), cells h6, by omega, by omega, q2, hq2, _, fun y hy => hy.1, by omega, by omega, q3, hq3, _, fun y hy => hy.2, ?_⟩
          intro w7
          obtain ⟨s8, w8, r8, h8⟩ := reg_more 1 rfl h6 (rqId Q i, rqV Q i) (by omega)
          have h8 : At W w8 (pgA p N4 :: regA s8 ((doS nw Q rs i).1 ++ [(rqId Q i, rqV Q i)]) :: ownA so (doS nw Q rs i).2 :: R) := h8
          obtain ⟨q4, hq4, hc4⟩ := hxat h8 1 (by omega)
          refine ⟨_, _, _, w8, r8, by omega, by omega, q4, hq4, _, hc4, ?_⟩
          unfold trystref22_Do.c4
          refine cond_t rfl (c3 w8 s8 _ _ h8 ?_)
          unfold ansT
          rw [erq, if_pos h71, hf]
          refine Prod.ext rfl ?_
          show valT nw ((doS nw Q rs i).1 ++ [(rqId Q i, rqV Q i)]) (rqId Q i) = _
          rw [← ev]
          unfold valT
          rw [List.find?_append]
          have : (doS nw Q rs i).1.find? (fun g => g.1 == rqId Q i) = none := by
            rw [List.find?_eq_none]
            intro g hg hh
            have : hasId (doS nw Q rs i).1 (rqId Q i) = true := List.any_eq_true.2 ⟨g, hg, hh⟩
            rw [hf] at this; cases this
          rw [this]
          simp
        · have h72 : kd = 72 := by omega
          unfold trystref22_Do.c4
          rw [hf]
          refine cond_f' rfl (c3 w5 sr nw _ h5 ?_)
          unfold ansT
          rw [erq, if_neg (by simpa using h71), if_pos (by simpa using h72), hv]
      · unfold trystref22_Do.c4
        rw [ht]
        have hvv : valT nw (doS nw Q rs i).1 (rqId Q i) = valT 0 (doS nw Q rs i).1 (rqId Q i) := by
          obtain ⟨g, hg, hv⟩ := i3 (i1.2 ht)
          rw [hv nw, hv 0]
        refine cond_t rfl (c3 w5 sr _ _ h5 ?_)
        unfold ansT
        rw [erq, ht]
        by_cases h71 : kd = 71
        · rw [if_pos (by simpa using h71)]
          exact Prod.ext rfl hvv
        · rw [if_neg (by simpa using h71), if_pos (by show kd = 72; omega)]
          exact Prod.ext rfl hvv
    have c11 : (¬ (kd = 71 ∧ rest.length = 2)) → (¬ (kd = 72 ∧ rest.length = 1)) → trystref22_Do.c11 RR (fun a0' l2' next8' out9' i10' w' => (a0' = some p ∧ l2' = s2 ∧ ∃ (i : Nat) (N : Nds), i10' = i ∧ i ≤ l.length ∧ terms N = (if i = 0 then T else T1) ∧ At W w' (regA next8' (doS nw Q rs i).1 :: ownA out9' (doS nw Q rs i).2 :: pgA p N :: R)) ∧ l.length - i10'.toNat < l.length - (i : Int).toNat) (some p) s2 sr so (i : Int) sx kd nw w4 := by
      intro hn1 hn2
      unfold trystref22_Do.c11
      refine cond_e (fun h73 => ?_) fun h73 => hnone (by unfold plOk; simp only; omega)
      dsimp only
      refine cond_e (fun hl2 => ?_) fun hl2 => hnone (by unfold plOk; simp only; omega)
      have hrl2 : rest.length = 2 := by omega
      have hyes : plOk (kd, rest) := .inl ⟨.inr h73, hrl2⟩
      rw [if_pos hyes] at erq
      have eid : rqId Q i = rest[0]?.getD 0 := by unfold rqId; rw [erq]
      unfold trystref22_Do.c9 trystref22_Do.l7
      refine ⟨fun t w' => ∃ j : Nat, t.2.2 = j ∧ j ≤ l.length ∧ t.1 = ((metL Q i j).length : Int) ∧ t.2.1 = (metL Q i j).getLast?.getD 0 ∧ At W w' (pgA p N4 :: regA sr (doS nw Q rs i).1 :: ownA so (doS nw Q rs i).2 :: R), fun t _ => l.length - t.2.2.toNat, ⟨0, rfl, Nat.zero_le _, rfl, rfl, h4⟩, ?_⟩
      rintro ⟨_, _, _⟩ w5 ⟨j, rfl, hj, rfl, rfl, h5⟩
      show trystref22_Do.b7 RR _ _ (some p) s2 sr so (i : Int) sx nw ((metL Q i j).length : Int) ((metL Q i j).getLast?.getD 0) (j : Int) w5
      unfold trystref22_Do.b7
      have hml := metL_len Q i j
      have skip : ¬ (j ≠ i ∧ (rq Q j).1 = 73 ∧ rqId Q j = rqId Q i) → metL Q i (j + 1) = metL Q i j := fun hn => by rw [metL_succ, if_neg hn]
      refine cond_d (p := ((j : Nat) : Int) < ((s2.len : Nat) : Int)) (fun hlt => ?_) fun hge => ?_
      · have hjl : j < l.length := by omega
        obtain ⟨q, hq, hc⟩ := hintL (X := [_, _, _]) h5 j hjl
        refine ⟨by omega, hlt, q, hq, _, hc, (payload_at h5 (by rw [hN4]; exact hin1 _ (List.getElem_mem hjl))).mono ?_⟩
        rintro _ w6 ⟨sy, rfl, hy, h6⟩
        rw [hN4] at hy ⊢
        have erqj : rq Q j = if plOk (plOf T1 l[j]) then plOf T1 l[j] else (0, []) := by
          rw [rq_at (by omega)]
          subst hQ
          rw [List.getElem_map, rqOf_pl]
        generalize hplj : plOf T1 l[j] = plj at hy erqj ⊢
        obtain ⟨kj, rj⟩ := plj
        have hyl : sy.len = rj.length := (hst hy h6).len
        refine ⟨_, _, _, _, rfl, ?_⟩
        have go : ∀ (x : Int), x = ((j + 1 : Nat) : Int) → metL Q i (j + 1) = metL Q i j → _ := fun x hx he =>
          (⟨⟨rfl, rfl, rfl, rfl, rfl, rfl, rfl, j + 1, hx, by omega, by rw [he], by rw [he], h6.drew⟩, by subst hx; omega⟩ : ((some p = some p ∧ s2 = s2 ∧ sr = sr ∧ so = so ∧ (i : Int) = i ∧ sx = sx ∧ nw = nw ∧ ∃ j' : Nat, x = j' ∧ j' ≤ l.length ∧ ((metL Q i j).length : Int) = ((metL Q i j').length : Int) ∧ (metL Q i j).getLast?.getD 0 = (metL Q i j').getLast?.getD 0 ∧ At W w6.drew (pgA p N4 :: regA sr (doS nw Q rs i).1 :: ownA so (doS nw Q rs i).2 :: R)) ∧ l.length - x.toNat < l.length - (j : Int).toNat))
        refine cond_n (fun hne => ?_) fun heq => ?_
        · refine cond_e (fun hk => ?_) fun hk => ?_
          · refine cond_e (fun hl => ?_) fun hl => ?_
            · have hrj2 : rj.length = 2 := by omega
              have hyj : plOk (kj, rj) := .inl ⟨.inr hk, hrj2⟩
              rw [if_pos hyj] at erqj
              have eidj : rqId Q j = rj[0]?.getD 0 := by unfold rqId; rw [erqj]
              have evj : rqV Q j = rj[1]?.getD 0 := by unfold rqV; rw [erqj]
              obtain ⟨q1, hq1, hc1⟩ := (hst hy h6).get (i := (0 : Int)) (by omega) (by omega)
              obtain ⟨q2, hq2, hc2⟩ := hxat h6 0 (by omega)
              have hc1 : w6.cell? (q1.add (0 : Int).toNat) = some (.int .i64 (rqId Q j)) := by rw [eidj]; exact hc1
              have hc2 : w6.cell? (q2.add (0 : Int).toNat) = some (.int .i64 (rqId Q i)) := by rw [eid]; exact hc2
              refine ⟨by omega, by omega, q1, hq1, _, hc1, by omega, by omega, q2, hq2, _, hc2, cond_e (fun he => ?_) fun he => go _ (inc (by omega)) (skip fun hh => he hh.2.2)⟩
              unfold trystref22_Do.c8
              have h7 := h6.drew
              obtain ⟨q3, hq3, hc3⟩ := (hst hy h7).get (i := (1 : Int)) (by omega) (by omega)
              refine ⟨by omega, by show (1 : Int) < ((sy.len : Nat) : Int); omega, q3, hq3, _, hc3, ?_⟩
              dsimp only
              rw [inc (by omega), inc (by omega)]
              have em : metL Q i (j + 1) = metL Q i j ++ [rqV Q j] := by rw [metL_succ, if_pos ⟨by omega, by rw [erqj]; exact hk, he⟩]
              refine ⟨⟨rfl, rfl, rfl, rfl, rfl, rfl, rfl, j + 1, rfl, by omega, ?_, ?_, h7.drew⟩, by omega⟩
              · rw [em, List.length_append]; rfl
              · rw [em, List.getLast?_concat, evj]; rfl
            · refine go _ (inc (by omega)) (skip fun hh => ?_)
              rw [erqj] at hh
              by_cases hyj : plOk (kj, rj)
              · unfold plOk at hyj
                simp only at hyj
                omega
              · rw [if_neg hyj] at hh; exact absurd hh.2.1 (by decide)
          · refine go _ (inc (by omega)) (skip fun hh => ?_)
            rw [erqj] at hh
            by_cases hyj : plOk (kj, rj)
            · rw [if_pos hyj] at hh; exact hk hh.2.1
            · rw [if_neg hyj] at hh; exact absurd hh.2.1 (by decide)
        · exact go _ (inc (by omega)) (skip fun hh => hh.1 (by omega))
      · have hjl : j = l.length := by omega
        subst hjl
        unfold trystref22_Do.c6
        have ea : ansT nw Q (doS nw Q rs i).1 i = ((doS nw Q rs i).1, metT nw Q i) := by
          unfold ansT
          rw [erq, if_neg (by show ¬ kd = 71; omega), if_neg (by show ¬ kd = 72; omega), if_pos h73]
        refine cond_e (fun h1 => ?_) fun h1 => ?_
        · refine c3 w5 sr _ _ h5 (ea.trans (Prod.ext rfl ?_))
          unfold metT
          rw [hQl, if_pos (by omega)]
          cases hgl : (metL Q i l.length).getLast? with
          | some x => rfl
          | none =>
            rw [List.getLast?_eq_none_iff] at hgl
            rw [hgl] at h1; simp at h1
        · refine c3 w5 sr _ _ h5 (ea.trans (Prod.ext rfl ?_))
          unfold metT
          rw [hQl, if_neg (by omega)]
    refine cond_e (fun h71 => cond_e (fun hl => c10 (.inl ⟨.inl h71, by show rest.length = 2; omega⟩) (.inl h71)) fun hl => ?_) fun h71 => ?_
    · refine cond_e (fun h72 => absurd h72 (by omega)) fun h72 => c11 (by omega) (by omega)
    · refine cond_e (fun h72 => ?_) fun h72 => c11 (by omega) (by omega)
      dsimp only
      exact cond_e (fun hl => c10 (.inr ⟨h72, by show rest.length = 1; omega⟩) (.inr h72)) fun hl => c11 (by omega) (by omega)
  · have hil : i = l.length := by omega
    subst hil
    unfold trystref22_Do.c1
    rw [← hRR]
    refine ⟨sr, so, rfl, ?_⟩
    have e : terms N = (if l = [] then T else (wordT T).1) := by
      rw [hN, hT1]
      cases l with
      | nil => rfl
      | cons a r => rw [if_neg (by simp), if_neg (by simp)]
    have h3 := h2.front 2 rfl
    have h4 : At W w2 (pgT p (if l = [] then T else (wordT T).1) :: regA sr (doS nw Q rs l.length).1 :: ownA so (doS nw Q rs l.length).2 :: R) := h3.go (Sep.pgIn h3.s e) (Below.refl _ _)
    exact (h4.front 2 rfl).front 2 rfl
end

end Go.Proofs.YtoclhecldmahiaaDoor

/-
  The last server over two arenas with the same terms: what it does is the same.
-/
set_option linter.unusedVariables false
set_option linter.unusedSimpArgs false
namespace Go.Proofs.YtoclhecldmahiaaDoor
open Go.Lf Go.RowKit

def RegEv (A B : List Tm) (ra rb : List Rg) : Prop := ra.length = rb.length ∧ ∀ (i : Nat) (x y : Rg), ra[i]? = some x → rb[i]? = some y → Ev A B x.1 y.1 ∧ Ev A B x.2 y.2
def QEv (A B : List Tm) (qa qb : List Rq) : Prop := qa.length = qb.length ∧ ∀ (i : Nat) (x y : Rq), qa[i]? = some x → qb[i]? = some y → x.1 = y.1 ∧ EvL A B x.2 y.2

variable {A B A' B' : List Tm}

theorem RegEv.mono (hA : Ext A A') (hB : Ext B B') {ra rb : List Rg} (h : RegEv A B ra rb) : RegEv A' B' ra rb := ⟨h.1, fun i x y hx hy => ⟨(h.2 i x y hx hy).1.mono hA hB, (h.2 i x y hx hy).2.mono hA hB⟩⟩
theorem RegEv.nil : RegEv A B [] [] := ⟨rfl, by simp⟩
theorem RegEv.tail {x y : Rg} {ra rb : List Rg} (h : RegEv A B (x :: ra) (y :: rb)) : (Ev A B x.1 y.1 ∧ Ev A B x.2 y.2) ∧ RegEv A B ra rb :=
  ⟨h.2 0 x y rfl rfl, by have := h.1; simpa using this, fun i x' y' hx hy => h.2 (i + 1) x' y' (by simpa using hx) (by simpa using hy)⟩
theorem RegEv.app {x y : Rg} {ra rb : List Rg} (h : RegEv A B ra rb) (h1 : Ev A B x.1 y.1) (h2 : Ev A B x.2 y.2) : RegEv A B (ra ++ [x]) (rb ++ [y]) := by
  have hl := h.1
  refine ⟨by simp [hl], fun i x' y' hx hy => ?_⟩
  rw [List.getElem?_append] at hx hy
  by_cases hi : i < ra.length
  · rw [if_pos hi] at hx; rw [if_pos (by omega)] at hy; exact h.2 i x' y' hx hy
  · rw [if_neg hi] at hx; rw [if_neg (by omega)] at hy
    have := (List.getElem?_eq_some_iff.1 hx).1
    simp at this
    have e : i = ra.length := by omega
    subst e
    rw [Nat.sub_self] at hx
    rw [hl, Nat.sub_self] at hy
    simp at hx hy
    subst hx hy
    exact ⟨h1, h2⟩
theorem RegEv.inB {ra rb : List Rg} (h : RegEv A B ra rb) : ∀ r ∈ rb, inT B r.1 ∧ inT B r.2 := by
  intro r hr
  obtain ⟨q, hq⟩ := List.getElem?_of_mem hr
  have hl := (List.getElem?_eq_some_iff.1 hq).1
  have h1 := h.1
  obtain ⟨e1, e2⟩ := h.2 q _ r (List.getElem?_eq_getElem (by omega)) hq
  exact ⟨e1.inB, e2.inB⟩
theorem RegEv.inA {ra rb : List Rg} (h : RegEv A B ra rb) : ∀ r ∈ ra, inT A r.1 ∧ inT A r.2 := by
  intro r hr
  obtain ⟨q, hq⟩ := List.getElem?_of_mem hr
  have hl := (List.getElem?_eq_some_iff.1 hq).1
  have h1 := h.1
  obtain ⟨e1, e2⟩ := h.2 q r _ hq (List.getElem?_eq_getElem (by omega))
  exact ⟨e1.inA, e2.inA⟩
theorem RegEv.left {ra ra' rb : List Rg} (hA : TOk A) (h : RegEv A B ra rb) (h' : RegEv A B ra' rb) : ra = ra' := by
  apply List.ext_getElem?
  intro i
  have l1 := h.1
  have l2 := h'.1
  rcases Nat.lt_or_ge i rb.length with hlt | hge
  · obtain ⟨a1, a2⟩ := h.2 i _ _ (List.getElem?_eq_getElem (by omega)) (List.getElem?_eq_getElem hlt)
    obtain ⟨b1, b2⟩ := h'.2 i _ _ (List.getElem?_eq_getElem (by omega)) (List.getElem?_eq_getElem hlt)
    rw [List.getElem?_eq_getElem (by omega), List.getElem?_eq_getElem (by omega)]
    exact congrArg some (Prod.ext (a1.left hA b1) (a2.left hA b2))
  · rw [List.getElem?_eq_none (by omega), List.getElem?_eq_none (by omega)]

theorem Ev.same_iff (hA : TOk A) (hB : TOk B) {a a' b b' : Int} (h : Ev A B a b) (h' : Ev A B a' b') : a = a' ↔ b = b' :=
  ⟨fun e => by subst e; exact h.right hB h', fun e => by subst e; exact h.left hA h'⟩
theorem Ev.beq (hA : TOk A) (hB : TOk B) {a a' b b' : Int} (h : Ev A B a b) (h' : Ev A B a' b') : (a == a') = (b == b') := by
  rw [Bool.eq_iff_iff, beq_iff_eq, beq_iff_eq]
  exact Ev.same_iff hA hB h h'

theorem hasId_ev (hA : TOk A) (hB : TOk B) {ia ib : Int} (hi : Ev A B ia ib) : ∀ {ra rb : List Rg}, RegEv A B ra rb → hasId ra ia = hasId rb ib
  | [], [], _ => rfl
  | [], _ :: _, h => by have := h.1; simp at this
  | _ :: _, [], h => by have := h.1; simp at this
  | x :: ra, y :: rb, h => by
    obtain ⟨⟨h1, _⟩, h2⟩ := h.tail
    have ih := hasId_ev hA hB hi h2
    unfold hasId at ih ⊢
    rw [List.any_cons, List.any_cons, ih, h1.beq hA hB hi]
theorem valT_ev (hA : TOk A) (hB : TOk B) {ia ib na nb : Int} (hi : Ev A B ia ib) (hn : Ev A B na nb) : ∀ {ra rb : List Rg}, RegEv A B ra rb → Ev A B (valT na ra ia) (valT nb rb ib)
  | [], [], _ => hn
  | [], _ :: _, h => by have := h.1; simp at this
  | _ :: _, [], h => by have := h.1; simp at this
  | x :: ra, y :: rb, h => by
    obtain ⟨⟨h1, h3⟩, h2⟩ := h.tail
    have ih := valT_ev hA hB hi hn h2
    unfold valT at ih ⊢
    have e := h1.beq hA hB hi
    rw [List.find?_cons, List.find?_cons, e]
    cases hb : (y.1 == ib) with
    | true => exact h3
    | false => exact ih

theorem rq_ev {qa qb : List Rq} (h : QEv A B qa qb) (j : Nat) : (rq qa j).1 = (rq qb j).1 ∧ EvL A B (rq qa j).2 (rq qb j).2 := by
  have hl := h.1
  unfold rq
  rcases Nat.lt_or_ge j qb.length with hlt | hge
  · rw [List.getElem?_eq_getElem hlt, List.getElem?_eq_getElem (by omega : j < qa.length)]
    exact h.2 j _ _ (List.getElem?_eq_getElem _) (List.getElem?_eq_getElem _)
  · rw [List.getElem?_eq_none (by omega : qb.length ≤ j), List.getElem?_eq_none (by omega : qa.length ≤ j)]
    exact ⟨rfl, EvL.nil _ _⟩
theorem rq_len {q : List Rq} (h : RqOk q) (j : Nat) : ((rq q j).1 = 71 ∨ (rq q j).1 = 73 → (rq q j).2.length = 2) ∧ ((rq q j).1 = 72 → (rq q j).2.length = 1) := by
  unfold rq
  rcases Nat.lt_or_ge j q.length with hlt | hge
  · rw [List.getElem?_eq_getElem hlt]
    rcases h j _ (List.getElem?_eq_getElem hlt) with e | ⟨e1, e2⟩ | ⟨e1, e2⟩
    · rw [e]; simp
    · show (q[j].1 = 71 ∨ q[j].1 = 73 → q[j].2.length = 2) ∧ (q[j].1 = 72 → q[j].2.length = 1)
      refine ⟨fun _ => e2, fun h => ?_⟩
      omega
    · show (q[j].1 = 71 ∨ q[j].1 = 73 → q[j].2.length = 2) ∧ (q[j].1 = 72 → q[j].2.length = 1)
      refine ⟨fun h => ?_, fun _ => e2⟩
      omega
  · rw [List.getElem?_eq_none hge]; simp
theorem rqId_ev {qa qb : List Rq} (h : QEv A B qa qb) {j : Nat} (hl : 1 ≤ (rq qb j).2.length) : Ev A B (rqId qa j) (rqId qb j) := by
  unfold rqId
  exact (rq_ev h j).2.at_ (by omega)
theorem rqV_ev {qa qb : List Rq} (h : QEv A B qa qb) {j : Nat} (hl : 2 ≤ (rq qb j).2.length) : Ev A B (rqV qa j) (rqV qb j) := by
  unfold rqV
  exact (rq_ev h j).2.at_ (by omega)

theorem metL_ev (hA : TOk A) (hB : TOk B) {qa qb : List Rq} (h : QEv A B qa qb) (hok : RqOk qb) {k : Nat} (hk : 1 ≤ (rq qb k).2.length) : ∀ m, EvL A B (metL qa k m) (metL qb k m)
  | 0 => EvL.nil _ _
  | m + 1 => by
    have ih := metL_ev hA hB h hok hk m
    rw [metL_succ, metL_succ]
    have e1 := (rq_ev h m).1
    by_cases h73 : (rq qb m).1 = 73
    · have hl := (rq_len hok m).1 (.inr h73)
      have e2 := rqId_ev h (j := m) (by omega)
      have e3 := rqId_ev h hk
      have e4 := Ev.same_iff hA hB e2 e3
      by_cases hc : m ≠ k ∧ (rq qb m).1 = 73 ∧ rqId qb m = rqId qb k
      · rw [if_pos hc, if_pos ⟨hc.1, e1.trans hc.2.1, e4.2 hc.2.2⟩]
        exact ih.app (rqV_ev h (by omega))
      · rw [if_neg hc, if_neg fun hh => hc ⟨hh.1, e1.symm.trans hh.2.1, e4.1 hh.2.2⟩]
        exact ih
    · rw [if_neg (fun hh => h73 (e1.symm.trans hh.2.1)), if_neg (fun hh => h73 hh.2.1)]
      exact ih

theorem metT_ev (hA : TOk A) (hB : TOk B) {qa qb : List Rq} (h : QEv A B qa qb) (hok : RqOk qb) {k : Nat} (hk : 1 ≤ (rq qb k).2.length) {na nb : Int} (hn : Ev A B na nb) : Ev A B (metT na qa k) (metT nb qb k) := by
  have hm := metL_ev hA hB h hok hk qb.length
  unfold metT
  rw [h.1]
  have hl := hm.1
  by_cases h1 : (metL qb k qb.length).length = 1
  · rw [if_pos h1, if_pos (by omega)]
    have e1 := List.getLast?_eq_getElem? (l := metL qa k qb.length)
    have e2 := List.getLast?_eq_getElem? (l := metL qb k qb.length)
    rw [e1, e2, hl, h1]
    have := hm.at_ (i := 0) (by omega)
    have z1 : (metL qa k qb.length)[1 - 1]? = some (((metL qa k qb.length)[0]?).getD 0) := by
      rw [show 1 - 1 = 0 from rfl, List.getElem?_eq_getElem (by omega : 0 < (metL qa k qb.length).length)]; rfl
    have z2 : (metL qb k qb.length)[1 - 1]? = some (((metL qb k qb.length)[0]?).getD 0) := by
      rw [show 1 - 1 = 0 from rfl, List.getElem?_eq_getElem (by omega : 0 < (metL qb k qb.length).length)]; rfl
    rw [z1, z2]
    exact this
  · rw [if_neg h1, if_neg (by omega)]
    exact hn

theorem ansT_ev (hA : TOk A) (hB : TOk B) {qa qb : List Rq} (h : QEv A B qa qb) (hok : RqOk qb) {na nb : Int} (hn : Ev A B na nb) {ra rb : List Rg} (hr : RegEv A B ra rb) (k : Nat) :
    RegEv A B (ansT na qa ra k).1 (ansT nb qb rb k).1 ∧ Ev A B (ansT na qa ra k).2 (ansT nb qb rb k).2 := by
  obtain ⟨e1, e2⟩ := rq_ev h k
  obtain ⟨l1, l2⟩ := rq_len hok k
  unfold ansT
  rw [e1]
  by_cases h71 : (rq qb k).1 = 71
  · rw [if_pos h71, if_pos h71]
    have hl := l1 (.inl h71)
    have ei := rqId_ev h (j := k) (by omega)
    have ev := rqV_ev h (j := k) (by omega)
    rw [hasId_ev hA hB ei hr]
    cases hasId rb (rqId qb k) with
    | true => exact ⟨hr, valT_ev hA hB ei hn hr⟩
    | false =>
      have hr' : RegEv A B (ra ++ [(rqId qa k, rqV qa k)]) (rb ++ [(rqId qb k, rqV qb k)]) := hr.app ei ev
      exact ⟨hr', valT_ev hA hB ei hn hr'⟩
  · rw [if_neg h71, if_neg h71]
    by_cases h72 : (rq qb k).1 = 72
    · rw [if_pos h72, if_pos h72]
      have hl := l2 h72
      exact ⟨hr, valT_ev hA hB (rqId_ev h (by omega)) hn hr⟩
    · rw [if_neg h72, if_neg h72]
      by_cases h73 : (rq qb k).1 = 73
      · rw [if_pos h73, if_pos h73]
        have hl := l1 (.inr h73)
        exact ⟨hr, metT_ev hA hB h hok (by omega) hn⟩
      · rw [if_neg h73, if_neg h73]
        exact ⟨hr, hn⟩

theorem doS_ev (hA : TOk A) (hB : TOk B) {qa qb : List Rq} (h : QEv A B qa qb) (hok : RqOk qb) {na nb : Int} (hn : Ev A B na nb) {ra rb : List Rg} (hr : RegEv A B ra rb) : ∀ k, RegEv A B (doS na qa ra k).1 (doS nb qb rb k).1 ∧ EvL A B (doS na qa ra k).2 (doS nb qb rb k).2
  | 0 => ⟨hr, EvL.nil _ _⟩
  | k + 1 => by
    obtain ⟨i1, i2⟩ := doS_ev hA hB h hok hn hr k
    obtain ⟨a1, a2⟩ := ansT_ev hA hB h hok hn i1 k
    exact ⟨a1, i2.app a2⟩

theorem rqOf_ev (hA : TOk A) (hB : TOk B) {a b : Int} (h : Ev A B a b) : (rqOf A a).1 = (rqOf B b).1 ∧ EvL A B (rqOf A a).2 (rqOf B b).2 := by
  obtain ⟨t1, t2, t3⟩ := h.tm
  have ha := h.args hA hB
  unfold rqOf
  rw [t1, t3]
  by_cases h1 : (tmAt B b).kind ≠ 9
  · rw [if_pos h1, if_pos h1]; exact ⟨rfl, EvL.nil _ _⟩
  rw [if_neg h1, if_neg h1]
  by_cases h2 : (tmAt B b).args.length < 2
  · rw [if_pos h2, if_pos h2]; exact ⟨rfl, EvL.nil _ _⟩
  rw [if_neg h2, if_neg h2]
  obtain ⟨z1, z2, z3⟩ := (h.argZ hA hB (by omega)).tm
  rw [z1, z2]
  by_cases h3 : (tmAt B (arg0 (tmAt B b))).kind ≠ 2
  · rw [if_pos h3, if_pos h3]; exact ⟨rfl, EvL.nil _ _⟩
  rw [if_neg h3, if_neg h3]
  have hd := ha.drop 1
  have hdl := hd.1
  unfold rqWord
  rw [hdl]
  by_cases hc : (tmAt B (arg0 (tmAt B b))).n < 71 ∨ 73 < (tmAt B (arg0 (tmAt B b))).n ∨ ((tmAt B b).args.drop 1).length ≠ (if (tmAt B (arg0 (tmAt B b))).n = 72 then 1 else 2)
  · rw [if_pos hc, if_pos hc]; exact ⟨rfl, EvL.nil _ _⟩
  · rw [if_neg hc, if_neg hc]; exact ⟨rfl, hd⟩

theorem doT_ev (hA : TOk A) (hB : TOk B) (hsA : A.length ≤ 900000) (hsB : B.length ≤ 900000) {la lb : List Int} {ra rb : List Rg} (hl : EvL A B la lb) (hr : RegEv A B ra rb) :
    RegEv (wordT A).1 (wordT B).1 (doT A ra la).1 (doT B rb lb).1 ∧ EvL (wordT A).1 (wordT B).1 (doT A ra la).2 (doT B rb lb).2 := by
  obtain ⟨_, _, _, _, ga⟩ := wordT_good (T := A) (by omega)
  obtain ⟨_, _, _, _, gb⟩ := wordT_good (T := B) (by omega)
  have hA' : TOk (wordT A).1 := hA.put _
  have hB' : TOk (wordT B).1 := hB.put _
  obtain ⟨_, _, hw⟩ := Ev.put (k := 2) (n := 0) (EvL.nil A B) (err_word (by omega)) (by omega) (by omega)
  have hl' := hl.mono ga.ext gb.ext
  have hll := hl.1
  have hq : QEv (wordT A).1 (wordT B).1 (la.map (rqOf (wordT A).1)) (lb.map (rqOf (wordT B).1)) := by
    refine ⟨by simp [hll], fun i x y hx hy => ?_⟩
    rw [List.getElem?_map] at hx hy
    cases ea : la[i]? with
    | none => rw [ea] at hx; cases hx
    | some u =>
      cases eb : lb[i]? with
      | none => rw [eb] at hy; cases hy
      | some v =>
        rw [ea] at hx
        rw [eb] at hy
        obtain rfl := Option.some.inj hx
        obtain rfl := Option.some.inj hy
        exact rqOf_ev hA' hB' (hl'.2 i u v ea eb)
  unfold doT
  rw [hll]
  exact doS_ev hA' hB' hq (rqsOk _ _) hw (hr.mono ga.ext gb.ext) lb.length

end Go.Proofs.YtoclhecldmahiaaDoor
