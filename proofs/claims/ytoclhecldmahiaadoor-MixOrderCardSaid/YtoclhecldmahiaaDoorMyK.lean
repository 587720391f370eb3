/-
  MixOrder: what each is answered; what comes back is opened.
-/
import Derived.Test.YtoclhecldmahiaaDoorMyI
import Derived.Test.YtoclhecldmahiaaDoorM4Fns
set_option linter.unusedVariables false
set_option linter.unusedVariables false
set_option linter.unusedSimpArgs false
namespace Go.Proofs.YtoclhecldmahiaaDoor
open Go.Lf Go.RowKit

def oth (i : Nat) : Nat := if i % 2 = 0 then i + 1 else i - 1
theorem oth_lt {i m : Nat} (h : i < 2 * m) : oth i < 2 * m := by unfold oth; split <;> omega
theorem oth_go : ∀ i ∈ List.range 12, Go.bits BinOp.xor .i64 (i : Int) 1 = ((oth i : Nat) : Int) := by decide +kernel
theorem div_go : ∀ i ∈ List.range 12, Int.tdiv (i : Int) 2 = ((i / 2 : Nat) : Int) := by decide +kernel
theorem filter_one {n j0 : Nat} {p : Nat → Bool} (h0 : j0 < n) (h : ∀ j, j < n → (p j = true ↔ j = j0)) : (List.range n).filter p = [j0] := by
  have hp : ((List.range n).filter p).Perm [j0] := by
    refine (List.perm_ext_iff_of_nodup (List.nodup_range.filter _) (by simp)).2 fun j => ?_
    rw [List.mem_filter, List.mem_range, List.mem_singleton]
    constructor
    · rintro ⟨h1, h2⟩
      exact (h j h1).1 h2
    · rintro rfl
      exact ⟨h0, (h _ h0).2 rfl⟩
  exact List.perm_singleton.1 hp

def orQ (B : List Tm) (i : Nat) (q : Rq) : Prop := ∃ d c : Nat, q = (73, [(d : Int), (c : Int)]) ∧ B[d]? = some ⟨1, ((100 + i / 2 : Nat) : Int), []⟩ ∧ B[c]? = some ⟨1, ((200 + i : Nat) : Int), []⟩
theorem orQ_mono : Mono orQ := fun B B' i q hE ⟨d, c, e, h1, h2⟩ => ⟨d, c, e, hE _ _ h1, hE _ _ h2⟩

theorem onsQ_at {os : List Oi} {i : Nat} (hi : i < os.length) : rq (onsQ os) i = (os[i]?.getD Oi.nil).q := by
  unfold rq onsQ
  rw [List.getElem?_map, List.getElem?_eq_getElem hi]
  rfl
theorem or_sep {B : List Tm} {P : List Nat} {os : List Oi} (h : OnsL B P 300 orQ os) : SepQ (onsQ os) := fun i j hi hj hne hw h71 => by
  have hi : i < os.length := by simpa [onsQ] using hi
  obtain ⟨d, c, e, _, _⟩ := (h.at_ hi).law
  rw [onsQ_at hi, e] at hw
  rcases hw with hw | hw <;> cases hw
/-- each is answered what the other one has left -/
theorem or_ans {B : List Tm} (hB : TOk B) {P : List Nat} {os : List Oi} {m : Nat} (h : OnsL B P 300 orQ os) (hl : os.length = 2 * m) (nw : Int) {i : Nat} (hi : i < os.length) : ∃ x : Nat, fA nw (onsQ os) i = x ∧ B[x]? = some ⟨1, ((200 + oth i : Nat) : Int), []⟩ := by
  have ho : oth i < os.length := by rw [hl]; exact oth_lt (by omega)
  obtain ⟨d, c, e, h1, h2⟩ := (h.at_ hi).law
  obtain ⟨d', c', e', h1', h2'⟩ := (h.at_ ho).law
  have hql : (onsQ os).length = os.length := by simp [onsQ]
  have key : ∀ j, j < os.length → ((decide (j ≠ i) && (rq (onsQ os) j).1 == 73 && rqId (onsQ os) j == rqId (onsQ os) i) = true ↔ j = oth i) := by
    intro j hj
    obtain ⟨dj, cj, ej, k1, k2⟩ := (h.at_ hj).law
    have hid : rqId (onsQ os) j = dj := by unfold rqId; rw [onsQ_at hj, ej]; rfl
    have hidi : rqId (onsQ os) i = d := by unfold rqId; rw [onsQ_at hi, e]; rfl
    rw [hid, hidi, onsQ_at hj, ej]
    have hdd : dj = d ↔ j / 2 = i / 2 := by
      constructor
      · rintro rfl
        have := some_two k1 h1
        simp only [Tm.mk.injEq, true_and, and_true] at this
        omega
      · intro hh
        rw [hh] at k1
        exact hB.once _ _ _ k1 h1
    simp only [Bool.and_eq_true, decide_eq_true_eq, beq_iff_eq, beq_self_eq_true, and_true]
    rw [show ((dj : Int) = (d : Int)) ↔ dj = d by omega, hdd]
    unfold oth
    split <;> omega
  have hm : metL (onsQ os) i (onsQ os).length = [rqV (onsQ os) (oth i)] := by
    unfold metL
    rw [hql, filter_one ho key]
    rfl
  refine ⟨c', ?_, h2'⟩
  unfold fA
  rw [onsQ_at hi, e]
  show (if (73 : Int) = 71 then _ else if (73 : Int) = 72 then _ else if (73 : Int) = 73 then _ else _) = _
  rw [if_neg (by decide), if_neg (by decide), if_pos rfl]
  unfold metT
  rw [hm, if_pos (show ([rqV (onsQ os) (oth i)] : List Int).length = 1 from rfl)]
  show rqV (onsQ os) (oth i) = _
  unfold rqV
  rw [onsQ_at ho, e']
  rfl

section
variable {W w w' : World} {pp a b : Addr} {A B A1 B1 : List Tm} {n : Nat} {R L : List Asn}

theorem popen_at (h : PairAt W w pp a b A B n R) (x k : Int) :
    CallsV Tryd.prog n_term_Arena_Open #[.pointer (some a), .int .i64 x, .int .i64 k] w fun v w' => ∃ s' : Sl, v = .tuple #[.slice s'.a s'.len s'.cap, .int .i64 (openT A x k).2] ∧ PairAt W w' pp a b A B n (ownA s' (openT A x k).1 :: R) := by
  obtain ⟨M, h1, hr⟩ := h
  refine (open_at (h1.front 1 rfl) x k).mono ?_
  rintro _ w' ⟨s', rfl, h2⟩
  have h3 : At W w' ([ownA s' (openT A x k).1] ++ (prA pp a b M :: arT a A :: pgT b B :: R)) := h2.perm (List.Perm.cons _ (List.Perm.swap _ _ _))
  exact ⟨s', rfl, PairAt.addK (K := [ownA s' (openT A x k).1]) h3 hr⟩

variable {os : List Oi} {P : List Nat} {outA outB inA wantA : List Int} {Zk : List (Sl × List Int)} {oS inS waS keS : Sl} {RR : Value → World → Prop} {m : Nat} {nw : Int}

/-- what the law holds of keys, and of what is wanted -/
structure OrK (A B : List Tm) (os : List Oi) (wantA : List Int) (Zk : List (Sl × List Int)) : Prop where
  kl : Zk.length = os.length
  keys : ∀ j, j < os.length → EvL A B (rowP Zk j) (oiK os j)
  wl : wantA.length = os.length
  want : ∀ j, j < os.length → ∃ x : Nat, Ev A B (wantA[j]?.getD 0) x ∧ B[x]? = some ⟨1, ((200 + oth j : Nat) : Int), []⟩
theorem OrK.mono {A' B' : List Tm} (hA : Ext A A') (hB : Ext B B') (h : OrK A B os wantA Zk) : OrK A' B' os wantA Zk :=
  ⟨h.kl, fun j hj => (h.keys j hj).mono hA hB, h.wl, fun j hj => by obtain ⟨x, h1, h2⟩ := h.want j hj; exact ⟨x, h1.mono hA hB, hB _ _ h2⟩⟩

/-- what comes back is opened -/
theorem mo_c6 (hRR : ∀ w, Below W.heap.size W w → RR (.bool true) w) (hB1 : TOk B1) (hK : OrK A B1 os wantA Zk) (hkl : ∀ j, j < os.length → (oiK os j).length = 3) (hkin : ∀ j, j < os.length → ∀ k ∈ oiK os j, inT B1 k) (hfew : os.length ≤ 12)
    (hout : EvL A B1 outA outB) (hol : outB.length = os.length) (hseal : ∀ i, i < os.length → ∃ x : Nat, SealC B1 (oiK os i) 3 (outB[i]?.getD 0) x ∧ B1[x]? = some ⟨1, ((200 + oth i : Nat) : Int), []⟩)
    (h : PairAt W w pp a b A B n (ownA oS outA :: ownA inS inA :: ownA waS wantA :: (R ++ (rowsL keS Zk ++ [])))) : trystlaw24_MixOrder.c6 RR (some pp) waS keS oS w := by
  have hA := h.ok.1
  have hl := hout.1
  have kl := hK.kl
  have wl := hK.wl
  unfold trystlaw24_MixOrder.c6 trystlaw24_MixOrder.l2
  refine ⟨fun t w' => ∃ i : Nat, t = i ∧ i ≤ os.length ∧ PairAt W w' pp a b A B n (ownA oS outA :: ownA inS inA :: ownA waS wantA :: (R ++ (rowsL keS Zk ++ []))), fun t _ => os.length - t.toNat, ⟨0, rfl, by omega, h⟩, ?_⟩
  clear h
  rintro _ w1 ⟨i, rfl, hi, h1⟩
  have hos : oS.len = outA.length := h1.mlen 0 rfl
  unfold trystlaw24_MixOrder.b2
  refine cond_d (p := ((i : Nat) : Int) < ((oS.len : Nat) : Int)) (fun hlt => ?_) fun hge => ?_
  · have hio : i < os.length := by omega
    obtain ⟨q, hq, hc⟩ := h1.mnum 0 rfl (i := i) (by omega)
    obtain ⟨xv, hsl, hxv⟩ := hseal i hio
    have hov := hout.at_ (i := i) (by omega)
    have e0 : outA[i]?.getD 0 = outA[i]'(by omega) := by rw [List.getElem?_eq_getElem (by omega)]; rfl
    refine ⟨by omega, hlt, q, hq, _, by rw [Int.toNat_natCast]; exact hc, ?_⟩
    unfold trystlaw24_MixOrder.l4
    refine ⟨fun t w' => ∃ (k : Nat) (y : Int), t.2 = k ∧ k ≤ 3 ∧ Ev A B1 t.1 y ∧ SealC B1 (oiK os i) (3 - k) y xv ∧ PairAt W w' pp a b A B n (ownA oS outA :: ownA inS inA :: ownA waS wantA :: (R ++ (rowsL keS Zk ++ []))), fun t _ => 3 - t.2.toNat, ⟨0, outB[i]?.getD 0, rfl, by omega, by rw [← e0]; exact hov, hsl, h1⟩, ?_⟩
    clear h1
    rintro ⟨x, _⟩ w2 ⟨k, y, rfl, hk, hev, hs, h2⟩
    show trystlaw24_MixOrder.b4 _ _ _ (some pp) waS keS oS (i : Int) x (k : Int) w2
    have h2 : PairAt W w2 pp a b A B n (ownA oS outA :: ownA inS inA :: ownA waS wantA :: (R ++ (rowsL keS Zk ++ []))) := h2
    have hev : Ev A B1 x y := hev
    unfold trystlaw24_MixOrder.b4
    refine cond_d (p := ((k : Nat) : Int) < 3) (fun hlt3 => ?_) fun hge3 => ?_
    · have hd := h2.drew
      have hrw : Rw w2.drew keS Zk := by
        obtain ⟨M, hM, _⟩ := hd
        refine rowsRd (fun z hz => ?_) (prA pp a b M :: arT a A :: pgT b B :: ownA oS outA :: ownA inS inA :: ownA waS wantA :: R) w2.drew hM
        obtain ⟨j, hj⟩ := List.getElem?_of_mem hz
        have hjl := (List.getElem?_eq_some_iff.1 hj).1
        have := (hK.keys j (by omega)).1
        unfold rowP at this
        rw [hj, hkl j (by omega)] at this
        have e : z.2.length = 3 := this
        omega
      have hrl := hrw.len
      obtain ⟨qk, hqk, hck, hIk⟩ := hrw.at2 (i := i) (by omega)
      have hkeys := hK.keys i hio
      have erow : rowP Zk i = Zk[i].2 := by unfold rowP; rw [List.getElem?_eq_getElem (by omega)]; rfl
      rw [erow] at hkeys
      have hk3 := hkl i hio
      have hkl3 := hkeys.1
      have hIl := hIk.len
      obtain ⟨qr, hqr, hcr⟩ := hIk.get (i := (k : Int)) (by omega) (by omega)
      obtain ⟨cA, _⟩ := hd.cells
      refine ⟨fun u => u = w2.drew, rfl, pp, rfl, some a, fun u hu => by rw [hu]; exact cA, by omega, by omega, qk, hqk, _, _, _, fun u hu => by rw [hu, Int.toNat_natCast]; exact hck, by omega, by omega, qr, hqr, _, fun u hu => by rw [hu]; exact hcr, ?_⟩
      rw [Int.toNat_natCast]
      obtain ⟨d, hd3⟩ : ∃ d, 3 - k = d + 1 := ⟨2 - k, by omega⟩
      rw [hd3] at hs
      obtain ⟨o, y', rfl, ho, hs'⟩ := hs
      rw [show 2 - d = k by omega] at ho
      have hkk := hkeys.at_ (i := k) (by omega)
      have hopen : openT B1 (o : Int) ((oiK os i)[k]?.getD 0) = ([y'], 0) := open_hit ho (hkin i hio _ (getD_mem (by omega)))
      obtain ⟨o1, o2⟩ := open_rel hA hB1 hev.rel hkk.rel
      rw [hopen] at o1 o2
      have ol := o2.1
      have oy := o2.at_ (i := 0) (by simp)
      refine (popen_at hd x ((Zk[i].2)[k]?.getD 0)).mono ?_
      rintro _ w3 ⟨s', rfl, h3⟩
      have hs'l := h3.mlen 0 rfl
      refine ⟨_, _, _, _, rfl, cond_n (fun hne => absurd o1 hne) fun _ => cond_n (fun hne => absurd (by rw [hs'l, ol]; rfl) hne) fun _ => ?_⟩
      unfold trystlaw24_MixOrder.c5
      obtain ⟨q0, hq0, hc0⟩ := h3.mnum 0 rfl (i := 0) (by rw [ol]; simp)
      rw [List.getElem?_eq_getElem (by rw [ol]; simp), Option.getD_some] at oy
      refine ⟨by omega, by rw [hs'l, ol]; simp, q0, hq0, _, hc0, ?_⟩
      dsimp only
      rw [inc (by omega)]
      refine ⟨⟨rfl, rfl, rfl, rfl, rfl, k + 1, y', rfl, by omega, oy, ?_, h3.dropR⟩, by (try dsimp only); omega⟩
      rw [show 3 - (k + 1) = d by omega]
      exact hs'
    · have hk3 : k = 3 := by omega
      subst hk3
      have hy : y = xv := hs
      subst hy
      unfold trystlaw24_MixOrder.c3
      obtain ⟨wx, hw1, hw2⟩ := hK.want i hio
      obtain ⟨qw, hqw, hcw⟩ := h2.mnum 2 rfl (i := i) (by omega)
      have hwsl := h2.mlen 2 rfl
      rw [List.getElem?_eq_getElem (by omega), Option.getD_some] at hw1
      rw [hB1.once _ _ _ hw2 hxv] at hw1
      refine ⟨by omega, by omega, qw, hqw, _, by rw [Int.toNat_natCast]; exact hcw, cond_n (fun hne => absurd (hev.left hA hw1) hne) fun _ => ?_⟩
      dsimp only
      rw [inc (by omega)]
      exact ⟨⟨rfl, rfl, rfl, rfl, i + 1, rfl, by omega, h2⟩, by (try dsimp only); omega⟩
  · unfold trystlaw24_MixOrder.c1
    refine (wakes24 h1.rest).mono ?_
    rintro _ w2 ⟨rfl, h2⟩
    exact ⟨_, rfl, hRR _ h2.b⟩
end

end Go.Proofs.YtoclhecldmahiaaDoor

/-
  MixOrder.
-/
set_option linter.unusedVariables false
set_option linter.unusedSimpArgs false
namespace Go.Proofs.YtoclhecldmahiaaDoor
open Go.Lf Go.RowKit

section
variable {W w w' : World} {pp a b : Addr} {A B A1 B1 : List Tm} {n : Nat} {R L : List Asn} {S P : List Nat} {os : List Oi} {inA wantA : List Int} {Zk Z : List (Sl × List Int)} {oS inS waS seS puS keS l20 peS : Sl} {RR : Value → World → Prop} {m : Nat} {pairs : Int} {Z0 : List (Sl × List Int)}

abbrev orR (inS waS seS puS keS : Sl) (inA wantA : List Int) (S P : List Nat) (Zk : List (Sl × List Int)) : List Asn := ownA inS inA :: ownA waS wantA :: ownA seS (toI S) :: ownA puS (toI P) :: (rowsL keS Zk ++ [])

/-- what the law has, ahead of the round -/
structure OrIn (A B : List Tm) (S P : List Nat) (os : List Oi) (inA wantA : List Int) (Zk : List (Sl × List Int)) : Prop where
  srv : SrvIn B 9000 S P 3
  ons : OnsL B P 300 orQ os
  inp : EvL A B inA (onsX os)
  k : OrK A B os wantA Zk
theorem OrIn.mono {A' B' : List Tm} (hA : Ext A A') (hB : Ext B B') (h : OrIn A B S P os inA wantA Zk) : OrIn A' B' S P os inA wantA Zk :=
  ⟨h.srv.mono hB, h.ons.mono orQ_mono hB, h.inp.mono hA hB, h.k.mono hA hB⟩

set_option maxRecDepth 100000 in
theorem mo_c8 (hRR : ∀ w, Below W.heap.size W w → RR (.bool true) w) (hI : OrIn A B S P os inA wantA Zk) (hl : os.length = 2 * m) (hm : m ≤ 6) (hn : n ≤ 1000) (hZ : Z.length = 3) (hZp : ∀ k, k < 3 → permOk (rowP Z k) os.length)
    (h : PairAt W w pp a b A B n (rowsL l20 Z ++ orR inS waS seS puS keS inA wantA S P Zk)) : trystlaw24_MixOrder.c8 RR (some pp) seS inS waS keS l20 w := by
  have xl : (onsX os).length = os.length := by simp [onsX]
  have yl := hI.inp.1
  obtain ⟨srl, sri⟩ := srv_in hI.srv
  have hZl : ∀ z ∈ Z, z.2.length ≤ 1000000 := fun z hz => by
    obtain ⟨j, hj⟩ := List.getElem?_of_mem hz
    have hjl := (List.getElem?_eq_some_iff.1 hj).1
    have := (hZp j (by omega)).1
    unfold rowP at this
    rw [hj] at this
    have e : z.2.length = os.length := this
    omega
  have fit : ∀ {K : List Asn} {X : List Asn} {Q : World → Prop}, (∀ L w', At W w' (L ++ X) → Q w') → ∀ L w', At W w' (L ++ (K ++ X)) → Q w' := fun hX L w' hw => hX (L ++ _) w' (by rw [List.append_assoc]; exact hw)
  -- behind the round
  have fin : ∀ {A' : List Tm} {za : List Int} {out : List Int} {n' : Nat} {K : List Asn} {oS : Sl} {w' : World}, Ext A A' → A'.length ≤ 1301 → TOk A' → RelL A' B za (toI S) → out = (roundT A' ⟨[], fun _ => []⟩ za inA (rowP Z)).2.2 → PairAt W w' pp a b (roundT A' ⟨[], fun _ => []⟩ za inA (rowP Z)).1 B n' (K ++ (ownA oS out :: (rowsL l20 Z ++ orR inS waS seS puS keS inA wantA S P Zk))) →
      wrongT A' ⟨[], fun _ => []⟩ za inA (rowsP Z) = 0 ∧ trystlaw24_MixOrder.c7 RR (some pp) inS waS keS oS 0 w' := by
    intro A' za out n' K oS w' hE hlA hokA hz hout hP
    have hB := h.ok.2
    have hI' := hI.mono hE (Ext.refl B)
    have hlB := h.lens.2
    obtain ⟨w0, A1, B1, sA, sB, outB, e1, e2, k1, k2, x1, x2, l1, l2, ev, ol, _, _, _, hs, hnw, _⟩ := vround orQ_mono hokA hB (by omega) (by omega) hI'.srv hI'.ons (or_sep hI'.ons) (by omega) (hz.ev sri) hI'.inp hZ hZp
    refine ⟨w0, ?_⟩
    rw [← hout] at ev
    rw [e1] at hP
    have h2 : PairAt W w' pp a b A1 B n' (ownA oS out :: orR inS waS seS puS keS inA wantA S P Zk) := (hP.cut.perm List.perm_middle.symm).cut
    have hons1 := hI'.ons.mono orQ_mono x2
    unfold trystlaw24_MixOrder.c7
    have hosl := h2.mlen 0 rfl
    have hisl := h2.mlen 1 rfl
    have evl := ev.1
    refine cond_n (fun hne => absurd rfl hne) fun _ => cond_n (fun hne => absurd (by rw [hosl, hisl]; omega) hne) fun _ => ?_
    refine mo_c6 (R := [ownA seS (toI S), ownA puS (toI P)]) hRR k2 (hI'.k.mono x1 x2) (fun j hj => (hons1.at_ hj).on.kl) (fun j hj => (hons1.at_ hj).on.kin) (by omega) ev ol (fun i hi => ?_) h2
    obtain ⟨x, hx1, hx2⟩ := or_ans k2 hons1 hl (wordT B).2.1 hi
    refine ⟨x, ?_, hx2⟩
    rw [← hx1]
    exact hs i hi
  unfold trystlaw24_MixOrder.c8
  have hd := h.drew
  obtain ⟨cA, _⟩ := hd.cells
  have nilRd : ∀ {R : List Asn}, MixRd W R ⟨none, 0, 0⟩ (fun _ => ⟨none, 0, 0⟩) ⟨[], fun _ => []⟩ := fun {R} => ⟨fun L w' _ => Regs.nil w', fun _ _ _ _ _ => Ints.nil⟩
  have hrows : ∀ L w', At W w' (L ++ (rowsL l20 Z ++ orR inS waS seS puS keS inA wantA S P Zk)) → Rw w' l20 Z := rowsRd hZl
  have hin : ∀ L w', At W w' (L ++ (rowsL l20 Z ++ orR inS waS seS puS keS inA wantA S P Zk)) → Ints .i64 w' inS inA := fun L w' hw => rowsI 0 rfl (by omega) (L ++ rowsL l20 Z) w' (by rw [List.append_assoc]; exact hw)
  have hsec : ∀ L w', At W w' (L ++ (rowsL l20 Z ++ orR inS waS seS puS keS inA wantA S P Zk)) → Ints .i64 w' seS (toI S) := fun L w' hw => rowsI 2 rfl (by omega) (L ++ rowsL l20 Z) w' (by rw [List.append_assoc]; exact hw)
  refine ⟨fun u => u.cell? pp = some (.pointer (some a)), cA, pp, rfl, some a, fun u hu => hu, ?_, ?_⟩
  · refine (pTs_at hd (by omega) (s := seS) (xs := toI S) (by omega) hsec).mono ?_
    rintro _ w3 ⟨zs, za, A', rfl, h3, hE, hz⟩
    have hzl := hz.1
    have hA'l := h3.lens.1
    have hokA := h3.ok.1
    refine ⟨_, _, _, rfl, h3.cells.1, ?_, ?_⟩
    · refine (mround_pair h3 (by omega) (st := ⟨[], fun _ => []⟩) (sr := ⟨none, 0, 0⟩) (ss := fun _ => ⟨none, 0, 0⟩) (secs := za) (sec := zs) (l := inA) (sl := inS) (Z := Z) (sp := l20) nilRd (by simp) (fun _ _ => by simp) (rowsI 0 rfl (by omega)) (fit (K := [_]) hin) (fit (K := [_]) hrows)).mono ?_
      rintro _ w4 ⟨sr', so, ss', st', out, A2, rfl, h4, _, good, _⟩
      refine ⟨_, _, _, _, _, _, _, _, _, _, _, _, _, _, _, _, rfl, ?_⟩
      intro w5
      obtain ⟨wr, h5⟩ := h4.mtmp 127 (zs := [.slice none 0 0, .slice none 0 0, .slice none 0 0, .slice none 0 0]) (cs := [sV sr', sV (ss' 0), sV (ss' 1), sV (ss' 2)]) rfl
      refine ⟨wr, ?_⟩
      by_cases he : wrongT A' ⟨[], fun _ => []⟩ za inA (rowsP Z) = 0
      · obtain ⟨rfl, rfl, rfl⟩ := good he
        rw [he]
        exact (fin (K := boxA _ _ :: (mixL sr' ss' _)) (n' := n + 301) (oS := so) hE (by omega) hokA hz rfl (by
          have h6 := h5.perm (List.Perm.refl _)
          exact (h6.mless 6 rfl))).2
      · exfalso
        obtain ⟨w0, _⟩ := vround orQ_mono hokA h.ok.2 (by omega) (by have := h.lens.2; omega) hI.srv hI.ons (or_sep hI.ons) (by omega) (hz.ev sri) (hI.inp.mono hE (Ext.refl B)) hZ hZp
        exact he w0
    · intro w7
      have h7 : PairAt W w7 pp a b A' B n (boxA (newA w3) nil4 :: ownA zs za :: (rowsL l20 Z ++ orR inS waS seS puS keS inA wantA S P Zk)) := h3.mbox 127 nil4
      clear_value w7
      generalize newA w3 = nb at h7 ⊢
      refine ⟨h7.cells.1, ?_⟩
      refine (mround_pair h7 (by omega) (st := ⟨[], fun _ => []⟩) (sr := ⟨none, 0, 0⟩) (ss := fun _ => ⟨none, 0, 0⟩) (secs := za) (sec := zs) (l := inA) (sl := inS) (Z := Z) (sp := l20) nilRd (by simp) (fun _ _ => by simp) (rowsI 1 rfl (by omega)) (fit (K := [_, _]) hin) (fit (K := [_, _]) hrows)).mono ?_
      rintro _ w8 ⟨sr', so, ss', st', out, A2, rfl, h8, _, good, _⟩
      refine ⟨_, _, _, _, _, _, _, _, _, _, _, _, _, _, _, _, rfl, ?_⟩
      obtain ⟨wr, h9⟩ := h8.mset4 5 rfl (sV sr') (sV (ss' 0)) (sV (ss' 1)) (sV (ss' 2))
      refine ⟨wr, ?_⟩
      by_cases he : wrongT A' ⟨[], fun _ => []⟩ za inA (rowsP Z) = 0
      · obtain ⟨rfl, rfl, rfl⟩ := good he
        rw [he]
        exact (fin (K := mixL sr' ss' _) (n' := n + 301) (oS := so) hE (by omega) hokA hz rfl ((h9.mless 6 rfl).mless 5 rfl)).2
      · exfalso
        obtain ⟨w0, _⟩ := vround orQ_mono hokA h.ok.2 (by omega) (by have := h.lens.2; omega) hI.srv hI.ons (or_sep hI.ons) (by omega) (hz.ev sri) (hI.inp.mono hE (Ext.refl B)) hZ hZp
        exact he w0
  · intro w10
    have h10 : PairAt W w10 pp a b A B n (boxA (newA w.drew) nil4 :: (rowsL l20 Z ++ orR inS waS seS puS keS inA wantA S P Zk)) := hd.mbox 127 nil4
    clear_value w10
    generalize newA w.drew = nb at h10 ⊢
    refine ⟨h10.cells.1, ?_⟩
    refine (pTs_at h10 (by omega) (s := seS) (xs := toI S) (by omega) (fit (K := [_]) hsec)).mono ?_
    rintro _ w11 ⟨zs, za, A', rfl, h11, hE, hz⟩
    have hzl := hz.1
    have hA'l := h11.lens.1
    have hokA := h11.ok.1
    refine ⟨_, _, _, rfl, h11.cells.1, ?_⟩
    refine (mround_pair h11 (by omega) (st := ⟨[], fun _ => []⟩) (sr := ⟨none, 0, 0⟩) (ss := fun _ => ⟨none, 0, 0⟩) (secs := za) (sec := zs) (l := inA) (sl := inS) (Z := Z) (sp := l20) nilRd (by simp) (fun _ _ => by simp) (rowsI 0 rfl (by omega)) (fit (K := [_, _]) hin) (fit (K := [_, _]) hrows)).mono ?_
    rintro _ w12 ⟨sr', so, ss', st', out, A2, rfl, h12, _, good, _⟩
    refine ⟨_, _, _, _, _, _, _, _, _, _, _, _, _, _, _, _, rfl, ?_⟩
    obtain ⟨wr, h13⟩ := h12.mset4 6 rfl (sV sr') (sV (ss' 0)) (sV (ss' 1)) (sV (ss' 2))
    refine ⟨wr, ?_⟩
    by_cases he : wrongT A' ⟨[], fun _ => []⟩ za inA (rowsP Z) = 0
    · obtain ⟨rfl, rfl, rfl⟩ := good he
      rw [he]
      exact (fin (K := mixL sr' ss' _) (n' := n + 301) (oS := so) hE (by omega) hokA hz rfl ((h13.mless 6 rfl).mless 5 rfl)).2
    · exfalso
      obtain ⟨w0, _⟩ := vround orQ_mono hokA h.ok.2 (by omega) (by have := h.lens.2; omega) hI.srv hI.ons (or_sep hI.ons) (by omega) (hz.ev sri) (hI.inp.mono hE (Ext.refl B)) hZ hZp
      exact he w0

/-- the permutations -/
theorem mo_l9 (hRR : ∀ w, Below W.heap.size W w → RR (.bool true) w) (hI : OrIn A B S P os inA wantA Zk) (hl : os.length = 2 * m) (hm : m ≤ 6) (hpa : pairs = (m : Int)) (hn : n ≤ 1000) (hZ0 : Rw W peS Z0) (hZ03 : Z0.length = 3) (hZ0l : ∀ z ∈ Z0, z.2.length ≤ 100)
    (h : PairAt W w pp a b A B n (orR inS waS seS puS keS inA wantA S P Zk)) : trystlaw24_MixOrder.c10 RR pairs peS (some pp) seS inS waS keS w := by
  subst hpa
  have hpl := hZ0.len
  unfold trystlaw24_MixOrder.c10 trystlaw24_MixOrder.l9
  refine ⟨fun t w' => ∃ (i : Nat) (Z : List (Sl × List Int)), t.2 = i ∧ i ≤ 3 ∧ Z.length = i ∧ (∀ j, j < i → permOk (rowP Z j) os.length) ∧ PairAt W w' pp a b A B n (rowsL t.1 Z ++ orR inS waS seS puS keS inA wantA S P Zk), fun t _ => 3 - t.2.toNat, ⟨0, [], rfl, by omega, rfl, fun j hj => by omega, ?_⟩, ?_⟩
  · obtain ⟨M, h1, hr⟩ := h
    exact PairAt.addK (K := rowsL ⟨none, 0, 0⟩ []) h1.rowsNil hr
  clear h
  rintro ⟨l20, _⟩ w1 ⟨i, Z, rfl, hi, hZl, hZp, h1⟩
  show trystlaw24_MixOrder.b9 _ _ _ _ _ _ _ _ _ l20 (i : Int) w1
  have h1 : PairAt W w1 pp a b A B n (rowsL l20 Z ++ orR inS waS seS puS keS inA wantA S P Zk) := h1
  unfold trystlaw24_MixOrder.b9
  refine cond_d (p := ((i : Nat) : Int) < 3) (fun hlt => ?_) fun hge => ?_
  · have hb1 := h1.base
    obtain ⟨q, hq, hc, hI0⟩ := (hZ0.below hb1).at2 (i := i) (by omega)
    have e2 : IntKind.i64.wrap (2 * (m : Int)) = ((os.length : Nat) : Int) := by rw [w64 (by omega)]; omega
    refine ⟨by omega, by omega, q, hq, _, _, _, by rw [Int.toNat_natCast]; exact hc, ?_⟩
    rw [e2]
    obtain ⟨M, h2, hr⟩ := h1
    refine (lawperm_at h2 (s := Z0[i].1) (xs := Z0[i].2) false (by omega) (by have := hZ0l _ (List.getElem_mem (by omega : i < Z0.length)); omega) (fun L w' hw => by
      obtain ⟨_, _, _, hI1⟩ := (hZ0.below hw.b).at2 (i := i) (by omega)
      exact hI1)).mono ?_
    rintro _ w2 ⟨so, ys, rfl, hyl, hperm, h3⟩
    have hperm := hperm rfl
    refine ⟨_, _, _, rfl, ?_⟩
    intro w3
    have h3 : At W w2 (ownA so ys :: prA pp a b M :: arT a A :: pgT b B :: (rowsA l20 Z :: ((Z.map fun z => ownA z.1 z.2) ++ orR inS waS seS puS keS inA wantA S P Zk))) := h3
    obtain ⟨s4, w4, run, h4⟩ := rows_more 4 rfl h3 so ys (by omega)
    refine ⟨_, _, _, w4, run, ?_⟩
    dsimp only
    rw [inc (by omega)]
    refine ⟨⟨rfl, rfl, rfl, rfl, rfl, rfl, rfl, i + 1, Z ++ [(so, ys)], rfl, by omega, by rw [List.length_append]; simp; omega, fun j hj => ?_, ?_⟩, by (try dsimp only); omega⟩
    · unfold rowP
      by_cases hji : j < i
      · rw [List.getElem?_append_left (by omega)]
        exact hZp j hji
      · rw [List.getElem?_append_right (by omega), show j - Z.length = 0 by omega]
        exact hperm
    · have h5 : At W w4 ([ownA so ys] ++ (prA pp a b M :: arT a A :: pgT b B :: (rowsA s4 (Z ++ [(so, ys)]) :: ((Z.map fun z => ownA z.1 z.2) ++ orR inS waS seS puS keS inA wantA S P Zk)))) := h4
      have h6 := PairAt.addK (K := [ownA so ys]) h5 hr
      exact h6.perm rowsL_perm
  · have hi3 : i = 3 := by omega
    subst hi3
    exact mo_c8 hRR hI hl hm hn hZl hZp h1
end

end Go.Proofs.YtoclhecldmahiaaDoor
