/-
  MixTurned: a round, in the three orders in which its arguments may be read.
-/
import Derived.Test.YtoclhecldmahiaaDoorMyI
import Derived.Test.YtoclhecldmahiaaDoorMxI
import Derived.Test.YtoclhecldmahiaaDoorM5Fns
set_option linter.unusedVariables false
set_option linter.unusedVariables false
set_option linter.unusedSimpArgs false
namespace Go.Proofs.YtoclhecldmahiaaDoor
open Go.Lf Go.RowKit

theorem onsQ_get {os : List Oi} {i : Nat} (hi : i < os.length) : rq (onsQ os) i = (os[i]?.getD Oi.nil).q := by
  unfold rq onsQ
  rw [List.getElem?_map, List.getElem?_eq_getElem hi]
  rfl

/-- what is asked: a write, a read, a drop -/
def turQ (B : List Tm) (i : Nat) (q : Rq) : Prop :=
  (∃ r v : Nat, q = (71, [(r : Int), (v : Int)]) ∧ B[r]? = some ⟨1, ((100 + i : Nat) : Int), []⟩) ∨ (∃ r m : Nat, q = (72, [(r : Int)]) ∧ m < 5 ∧ B[r]? = some ⟨1, ((300 + m : Nat) : Int), []⟩) ∨ ∃ d c : Nat, q = (73, [(d : Int), (c : Int)])
theorem turQ_mono : Mono turQ := fun B B' i q hE h => by
  rcases h with ⟨r, v, e, h1⟩ | ⟨r, m, e, hm, h1⟩ | h
  · exact .inl ⟨r, v, e, hE _ _ h1⟩
  · exact .inr (.inl ⟨r, m, e, hm, hE _ _ h1⟩)
  · exact .inr (.inr h)
theorem tur_sep {B : List Tm} {P : List Nat} {os : List Oi} (h : OnsL B P 600 turQ os) (hl : os.length ≤ 12) : SepQ (onsQ os) := fun i j hi hj hne hw h71 => by
  have hi : i < os.length := by simpa [onsQ] using hi
  have hj : j < os.length := by simpa [onsQ] using hj
  have li := (h.at_ hi).law
  have lj := (h.at_ hj).law
  unfold rqId
  rw [onsQ_get hi] at hw ⊢
  rw [onsQ_get hj] at h71 ⊢
  generalize (os[i]?.getD Oi.nil).q = qi at *
  generalize (os[j]?.getD Oi.nil).q = qj at *
  obtain ⟨rj, hrj, hbj⟩ : ∃ r : Nat, qj.2[0]?.getD 0 = (r : Int) ∧ B[r]? = some ⟨1, ((100 + j : Nat) : Int), []⟩ := by
    rcases lj with ⟨r, v, rfl, h1⟩ | ⟨r, m, rfl, _⟩ | ⟨d, c, rfl⟩
    · exact ⟨r, rfl, h1⟩
    · cases h71
    · cases h71
  obtain ⟨ri, hri, k, hk, hbi⟩ : ∃ r : Nat, qi.2[0]?.getD 0 = (r : Int) ∧ ∃ k : Nat, k ≠ 100 + j ∧ B[r]? = some ⟨1, (k : Int), []⟩ := by
    rcases li with ⟨r, v, rfl, h1⟩ | ⟨r, m, rfl, hm, h1⟩ | ⟨d, c, rfl⟩
    · exact ⟨r, rfl, 100 + i, by omega, h1⟩
    · exact ⟨r, rfl, 300 + m, by omega, h1⟩
    · rcases hw with hw | hw <;> cases hw
  rw [hri, hrj]
  intro he
  rw [nat_of_eq he] at hbi
  have := some_two hbi hbj
  simp only [Tm.mk.injEq, true_and, and_true] at this
  omega

theorem wrs_nodup {Q : List Rq} (hs : SepQ Q) : (wrs Q Q.length).Nodup := by
  unfold wrs
  refine List.pairwise_map.2 (List.Pairwise.imp_of_mem (R := (· ≠ ·)) ?_ (List.nodup_range.filter _))
  intro i j hi hj hne he
  obtain ⟨i1, i2⟩ := List.mem_filter.1 hi
  obtain ⟨j1, j2⟩ := List.mem_filter.1 hj
  exact hs i j (List.mem_range.1 i1) (List.mem_range.1 j1) hne (.inl (by simpa using i2)) (by simpa using j2) (Prod.mk.inj he).1

open Classical in
/-- registers that are those of the page, in another order -/
theorem regs_perm {A B : List Tm} (hA : TOk A) (hB : TOk B) {ra rb ra' rb' : List Rg} (h : RegEv A B ra rb) (h' : RegEv A B ra' rb') (hp : rb.Perm rb') (hn : rb.Nodup) : ra.Perm ra' ∧ ra.Nodup := by
  obtain ⟨f, hf⟩ : ∃ f : Int → Int, ∀ x y, Ev A B x y → f y = x := by
    refine ⟨fun y => if h : ∃ x, Ev A B x y then h.choose else 0, fun x y he => ?_⟩
    have hex : ∃ x, Ev A B x y := ⟨x, he⟩
    show (if h : ∃ x, Ev A B x y then h.choose else 0) = x
    rw [dif_pos hex]
    exact hex.choose_spec.left hA he
  have key : ∀ {ra rb : List Rg}, RegEv A B ra rb → ra = rb.map fun r => (f r.1, f r.2) := by
    intro ra rb h
    refine List.ext_getElem (by simpa using h.1) fun i h1 h2 => ?_
    have h2 : i < rb.length := by simpa using h2
    obtain ⟨a1, a2⟩ := h.2 i _ _ (List.getElem?_eq_getElem h1) (List.getElem?_eq_getElem h2)
    rw [List.getElem_map, hf _ _ a1, hf _ _ a2]
  refine ⟨by rw [key h, key h']; exact hp.map _, ?_⟩
  have hev : ∀ r ∈ rb, Ev A B (f r.1) r.1 ∧ Ev A B (f r.2) r.2 := fun r hr => by
    obtain ⟨q, hq⟩ := List.getElem?_of_mem hr
    have hl := (List.getElem?_eq_some_iff.1 hq).1
    have h1 := h.1
    obtain ⟨e1, e2⟩ := h.2 q _ r (List.getElem?_eq_getElem (by omega)) hq
    rw [hf _ _ e1, hf _ _ e2]
    exact ⟨e1, e2⟩
  rw [key h]
  refine List.pairwise_map.2 (List.Pairwise.imp_of_mem (R := (· ≠ ·)) ?_ hn)
  intro r s hr hs hne he
  obtain ⟨e1, e2⟩ := Prod.mk.inj he
  obtain ⟨r1, r2⟩ := hev r hr
  obtain ⟨s1, s2⟩ := hev s hs
  rw [← e1] at s1
  rw [← e2] at s2
  exact hne (Prod.ext (r1.right hB s1) (r2.right hB s2))

/-- a round: the pointer read behind the terms, behind what is laid, or ahead of both -/
def ord3 (p9 : Option Addr) (secrets12 in14 u21 : Sl) (C : Addr → Sl → Int → World → Prop) (w : World) : Prop :=
  ∃ S_114 : World → Prop, S_114 w.drew ∧
  ∃ q_115 : Addr, p9 = some q_115 ∧
  ∃ p_116 : Option Addr, (∀ x, S_114 x → x.cell? q_115 = some (.pointer p_116)) ∧
  (CallsV Tryd.prog n_trystlaw10_Pair_Ts #[.pointer p9, .slice secrets12.a secrets12.len secrets12.cap] w.drew (fun v_117 w16 =>
  ∃ (a_118 : Option Addr) (l_119 c_120 : Nat), v_117 = .slice a_118 l_119 c_120 ∧
  S_114 w16 ∧
  (CallsV Tryd.prog n_mix_Round #[.pointer p_116, .agg #[.slice none 0 0, .slice none 0 0, .slice none 0 0, .slice none 0 0], .slice a_118 l_119 c_120, .slice in14.a in14.len in14.cap, .slice u21.a u21.len u21.cap] w16 (fun v_121 w17 =>
  ∃ (a_122 : Option Addr) (l_123 c_124 : Nat), ∃ (a_125 : Option Addr) (l_126 c_127 : Nat), ∃ (a_128 : Option Addr) (l_129 c_130 : Nat), ∃ (a_131 : Option Addr) (l_132 c_133 : Nat), ∃ (a_134 : Option Addr) (l_135 c_136 : Nat), ∃ x_137 : Int, v_121 = .tuple #[.agg #[.slice a_122 l_123 c_124, .slice a_125 l_126 c_127, .slice a_128 l_129 c_130, .slice a_131 l_132 c_133], .slice a_134 l_135 c_136, .int .i64 x_137] ∧
  let w18 := w17.alloc (.cells #[.slice none 0 0, .slice none 0 0, .slice none 0 0, .slice none 0 0] 127);
  (∀ j, j < 4 → Wr w18 ((newA w17).add j)) ∧
  (let w19 := setCells (newA w17) [.slice a_122 l_123 c_124, .slice a_125 l_126 c_127, .slice a_128 l_129 c_130, .slice a_131 l_132 c_133] 0 w18;
  C (newA w17) ⟨a_134, l_135, c_136⟩ x_137 w19))) ∧
  (let w20 := w16.alloc (.cells #[.slice none 0 0, .slice none 0 0, .slice none 0 0, .slice none 0 0] 127);
  S_114 w20 ∧
  CallsV Tryd.prog n_mix_Round #[.pointer p_116, .agg #[.slice none 0 0, .slice none 0 0, .slice none 0 0, .slice none 0 0], .slice a_118 l_119 c_120, .slice in14.a in14.len in14.cap, .slice u21.a u21.len u21.cap] w20 (fun v_138 w21 =>
  ∃ (a_139 : Option Addr) (l_140 c_141 : Nat), ∃ (a_142 : Option Addr) (l_143 c_144 : Nat), ∃ (a_145 : Option Addr) (l_146 c_147 : Nat), ∃ (a_148 : Option Addr) (l_149 c_150 : Nat), ∃ (a_151 : Option Addr) (l_152 c_153 : Nat), ∃ x_154 : Int, v_138 = .tuple #[.agg #[.slice a_139 l_140 c_141, .slice a_142 l_143 c_144, .slice a_145 l_146 c_147, .slice a_148 l_149 c_150], .slice a_151 l_152 c_153, .int .i64 x_154] ∧
  (∀ j, j < 4 → Wr w21 ((newA w16).add j)) ∧
  (let w22 := setCells (newA w16) [.slice a_139 l_140 c_141, .slice a_142 l_143 c_144, .slice a_145 l_146 c_147, .slice a_148 l_149 c_150] 0 w21;
  C (newA w16) ⟨a_151, l_152, c_153⟩ x_154 w22))))) ∧
  (let w23 := w.drew.alloc (.cells #[.slice none 0 0, .slice none 0 0, .slice none 0 0, .slice none 0 0] 127);
  S_114 w23 ∧
  CallsV Tryd.prog n_trystlaw10_Pair_Ts #[.pointer p9, .slice secrets12.a secrets12.len secrets12.cap] w23 (fun v_155 w24 =>
  ∃ (a_156 : Option Addr) (l_157 c_158 : Nat), v_155 = .slice a_156 l_157 c_158 ∧
  S_114 w24 ∧
  CallsV Tryd.prog n_mix_Round #[.pointer p_116, .agg #[.slice none 0 0, .slice none 0 0, .slice none 0 0, .slice none 0 0], .slice a_156 l_157 c_158, .slice in14.a in14.len in14.cap, .slice u21.a u21.len u21.cap] w24 (fun v_159 w25 =>
  ∃ (a_160 : Option Addr) (l_161 c_162 : Nat), ∃ (a_163 : Option Addr) (l_164 c_165 : Nat), ∃ (a_166 : Option Addr) (l_167 c_168 : Nat), ∃ (a_169 : Option Addr) (l_170 c_171 : Nat), ∃ (a_172 : Option Addr) (l_173 c_174 : Nat), ∃ x_175 : Int, v_159 = .tuple #[.agg #[.slice a_160 l_161 c_162, .slice a_163 l_164 c_165, .slice a_166 l_167 c_168, .slice a_169 l_170 c_171], .slice a_172 l_173 c_174, .int .i64 x_175] ∧
  (∀ j, j < 4 → Wr w25 ((newA w.drew).add j)) ∧
  (let w26 := setCells (newA w.drew) [.slice a_160 l_161 c_162, .slice a_163 l_164 c_165, .slice a_166 l_167 c_168, .slice a_169 l_170 c_171] 0 w25;
  C (newA w.drew) ⟨a_172, l_173, c_174⟩ x_175 w26))))

theorem c8_ord {R : Value → World → Prop} {p : Option Addr} {se il u v : Sl} {w : World} : trystlaw24_MixTurned.c8 R p se il u v w = ord3 p se il u (fun x s e w => trystlaw24_MixTurned.c7 R p se il v x s e w) w := rfl
theorem c7_ord {R : Value → World → Prop} {p : Option Addr} {se il v : Sl} {x : Addr} {s : Sl} {e : Int} {w : World} : trystlaw24_MixTurned.c7 R p se il v x s e w = ord3 p se il v (fun y t f w => trystlaw24_MixTurned.c6 R il x s e y t f w) w := rfl

section
variable {W w w' : World} {pp a b : Addr} {A B : List Tm} {n : Nat} {X R : List Asn} {S P : List Nat} {inA : List Int} {Z : List (Sl × List Int)} {inS seS uS : Sl}

theorem PairAt.cutM {K1 K2 : List Asn} (h : PairAt W w pp a b A B n (K1 ++ (K2 ++ R))) : PairAt W w pp a b A B n (K1 ++ R) := (h.perm (List.perm_append_comm_assoc K1 K2 R)).cut

set_option maxRecDepth 100000 in
theorem ord3_of {C : Addr → Sl → Int → World → Prop} (hn : n ≤ 500000) (hsl : (toI S).length ≤ 1000) (hsri : ∀ x ∈ toI S, inT B x)
    (hin : ∀ L w', At W w' (L ++ X) → Ints .i64 w' inS inA) (hsec : ∀ L w', At W w' (L ++ X) → Ints .i64 w' seS (toI S)) (hrows : ∀ L w', At W w' (L ++ X) → Rw w' uS Z)
    (hwr : ∀ A' za, TOk A' → Ext A A' → A'.length ≤ n → EvL A' B za (toI S) → wrongT A' ⟨[], fun _ => []⟩ za inA (rowsP Z) = 0)
    (hC : ∀ A' za sr ss so x w', TOk A' → Ext A A' → A'.length ≤ n → EvL A' B za (toI S) → PairAt W w' pp a b (roundT A' ⟨[], fun _ => []⟩ za inA (rowP Z)).1 B (n + 301) (boxA x [sV sr, sV (ss 0), sV (ss 1), sV (ss 2)] :: (mixL sr ss (roundT A' ⟨[], fun _ => []⟩ za inA (rowP Z)).2.1 ++ (ownA so (roundT A' ⟨[], fun _ => []⟩ za inA (rowP Z)).2.2 :: X))) → C x so 0 w')
    (h : PairAt W w pp a b A B n X) : ord3 (some pp) seS inS uS C w := by
  have fit : ∀ {K : List Asn} {Q : World → Prop}, (∀ L w', At W w' (L ++ X) → Q w') → ∀ L w', At W w' (L ++ (K ++ X)) → Q w' := fun hX L w' hw => hX (L ++ _) w' (by rw [List.append_assoc]; exact hw)
  unfold ord3
  have hd := h.drew
  obtain ⟨cA, _⟩ := hd.cells
  have nilRd : ∀ {R : List Asn}, MixRd W R ⟨none, 0, 0⟩ (fun _ => ⟨none, 0, 0⟩) ⟨[], fun _ => []⟩ := fun {R} => ⟨fun L w' _ => Regs.nil w', fun _ _ _ _ _ => Ints.nil⟩
  refine ⟨fun u => u.cell? pp = some (.pointer (some a)), cA, pp, rfl, some a, fun u hu => hu, ?_, ?_⟩
  · refine (pTs_at hd (by omega) (s := seS) (xs := toI S) (by omega) hsec).mono ?_
    rintro _ w3 ⟨zs, za, A', rfl, h3, hE, hz⟩
    have hzl := hz.1
    have hA'l := h3.lens.1
    have hokA := h3.ok.1
    have hzE := hz.ev hsri
    refine ⟨_, _, _, rfl, h3.cells.1, ?_, ?_⟩
    · refine (mround_pair h3 (by omega) (st := ⟨[], fun _ => []⟩) (sr := ⟨none, 0, 0⟩) (ss := fun _ => ⟨none, 0, 0⟩) (secs := za) (sec := zs) (l := inA) (sl := inS) (Z := Z) (sp := uS) nilRd (by simp) (fun _ _ => by simp) (rowsI 0 rfl (by omega)) (fit (K := [_]) hin) (fit (K := [_]) hrows)).mono ?_
      rintro _ w4 ⟨sr', so, ss', st', out, A2, rfl, h4, _, good, _⟩
      refine ⟨_, _, _, _, _, _, _, _, _, _, _, _, _, _, _, _, rfl, ?_⟩
      intro w5
      obtain ⟨wr, h5⟩ := h4.mtmp 127 (zs := [.slice none 0 0, .slice none 0 0, .slice none 0 0, .slice none 0 0]) (cs := [sV sr', sV (ss' 0), sV (ss' 1), sV (ss' 2)]) rfl
      refine ⟨wr, ?_⟩
      have he := hwr A' za hokA hE hA'l hzE
      obtain ⟨rfl, rfl, rfl⟩ := good he
      rw [he]
      exact hC A' za sr' ss' so _ _ hokA hE hA'l hzE (h5.mless 6 rfl)
    · intro w7
      have h7 : PairAt W w7 pp a b A' B n (boxA (newA w3) nil4 :: ownA zs za :: X) := h3.mbox 127 nil4
      clear_value w7
      generalize newA w3 = nb at h7 ⊢
      refine ⟨h7.cells.1, ?_⟩
      refine (mround_pair h7 (by omega) (st := ⟨[], fun _ => []⟩) (sr := ⟨none, 0, 0⟩) (ss := fun _ => ⟨none, 0, 0⟩) (secs := za) (sec := zs) (l := inA) (sl := inS) (Z := Z) (sp := uS) nilRd (by simp) (fun _ _ => by simp) (rowsI 1 rfl (by omega)) (fit (K := [_, _]) hin) (fit (K := [_, _]) hrows)).mono ?_
      rintro _ w8 ⟨sr', so, ss', st', out, A2, rfl, h8, _, good, _⟩
      refine ⟨_, _, _, _, _, _, _, _, _, _, _, _, _, _, _, _, rfl, ?_⟩
      obtain ⟨wr, h9⟩ := h8.mset4 5 rfl (sV sr') (sV (ss' 0)) (sV (ss' 1)) (sV (ss' 2))
      refine ⟨wr, ?_⟩
      have he := hwr A' za hokA hE hA'l hzE
      obtain ⟨rfl, rfl, rfl⟩ := good he
      rw [he]
      exact hC A' za sr' ss' so _ _ hokA hE hA'l hzE ((h9.mless 6 rfl).perm (List.perm_middle (l₁ := [_, _, _, _, _])))
  · intro w10
    have h10 : PairAt W w10 pp a b A B n (boxA (newA w.drew) nil4 :: X) := hd.mbox 127 nil4
    clear_value w10
    generalize newA w.drew = nb at h10 ⊢
    refine ⟨h10.cells.1, ?_⟩
    refine (pTs_at h10 (by omega) (s := seS) (xs := toI S) (by omega) (fit (K := [_]) hsec)).mono ?_
    rintro _ w11 ⟨zs, za, A', rfl, h11, hE, hz⟩
    have hzl := hz.1
    have hA'l := h11.lens.1
    have hokA := h11.ok.1
    have hzE := hz.ev hsri
    refine ⟨_, _, _, rfl, h11.cells.1, ?_⟩
    refine (mround_pair h11 (by omega) (st := ⟨[], fun _ => []⟩) (sr := ⟨none, 0, 0⟩) (ss := fun _ => ⟨none, 0, 0⟩) (secs := za) (sec := zs) (l := inA) (sl := inS) (Z := Z) (sp := uS) nilRd (by simp) (fun _ _ => by simp) (rowsI 0 rfl (by omega)) (fit (K := [_, _]) hin) (fit (K := [_, _]) hrows)).mono ?_
    rintro _ w12 ⟨sr', so, ss', st', out, A2, rfl, h12, _, good, _⟩
    refine ⟨_, _, _, _, _, _, _, _, _, _, _, _, _, _, _, _, rfl, ?_⟩
    obtain ⟨wr, h13⟩ := h12.mset4 6 rfl (sV sr') (sV (ss' 0)) (sV (ss' 1)) (sV (ss' 2))
    refine ⟨wr, ?_⟩
    have he := hwr A' za hokA hE hA'l hzE
    obtain ⟨rfl, rfl, rfl⟩ := good he
    rw [he]
    exact hC A' za sr' ss' so _ _ hokA hE hA'l hzE ((h13.mless 5 rfl).perm (List.perm_middle (l₁ := [_, _, _, _, _])))
end

end Go.Proofs.YtoclhecldmahiaaDoor

/-
  MixTurned: what the rounds have given is compared; the rounds.
-/
set_option linter.unusedVariables false
set_option linter.unusedSimpArgs false
namespace Go.Proofs.YtoclhecldmahiaaDoor
open Go.Lf Go.RowKit

section
variable {W w w' : World} {pp a b : Addr} {A B : List Tm} {n : Nat} {X R Y : List Asn} {S P : List Nat} {os : List Oi} {inA : List Int} {Z Zu Zv : List (Sl × List Int)} {inS seS puS uS vS : Sl} {RR : Value → World → Prop} {x y : Addr} {sr1 sr2 : Sl} {ra1 ra2 : List Rg}

set_option maxRecDepth 100000 in
/-- each register is found once -/
theorem mt_c5 (hRR : ∀ w, Below W.heap.size W w → RR (.bool true) w) (hx : ∀ w', PairAt W w' pp a b A B n R → w'.cell? x = some (sV sr1) ∧ Regs w' sr1 ra1 ∧ w'.cell? y = some (sV sr2) ∧ Regs w' sr2 ra2) (hp : ra1.Perm ra2) (hn : ra1.Nodup) (hl : ra1.length ≤ 100000)
    (h : PairAt W w pp a b A B n R) : trystlaw24_MixTurned.c5 RR x y w := by
  have hl2 := hp.length_eq
  unfold trystlaw24_MixTurned.c5 trystlaw24_MixTurned.l2
  refine ⟨fun t w' => ∃ i : Nat, t = i ∧ i ≤ ra1.length ∧ PairAt W w' pp a b A B n R, fun t _ => ra1.length - t.toNat, ⟨0, rfl, by omega, h⟩, ?_⟩
  clear h
  rintro _ w1 ⟨i, rfl, hi, h1⟩
  obtain ⟨cx, rx, _, _⟩ := hx w1 h1
  have hrx := rx.len
  unfold trystlaw24_MixTurned.b2
  refine ⟨_, _, _, cx, ?_⟩
  refine cond_d (p := ((i : Nat) : Int) < ((sr1.len : Nat) : Int)) (fun hlt => ?_) fun hge => ?_
  · have hil : i < ra1.length := by omega
    obtain ⟨r, hr⟩ : ∃ r, r = ra1[i] := ⟨_, rfl⟩
    have hri : ra1[i]? = some r := by rw [hr]; exact List.getElem?_eq_getElem hil
    have hc1 : ra2.count r = 1 := by
      rw [← hp.count_eq r, hn.count, if_pos (List.mem_of_getElem? hri)]
    unfold trystlaw24_MixTurned.l4
    refine ⟨fun t w' => ∃ k : Nat, t.2 = k ∧ k ≤ ra2.length ∧ t.1 = ((ra2.take k).count r : Int) ∧ PairAt W w' pp a b A B n R, fun t _ => ra2.length - t.2.toNat, ⟨0, rfl, by omega, by simp, h1⟩, ?_⟩
    clear h1 cx rx
    rintro ⟨f, _⟩ w2 ⟨k, rfl, hk, hf, h2⟩
    show trystlaw24_MixTurned.b4 _ _ _ x y (i : Int) f (k : Int) w2
    have h2 : PairAt W w2 pp a b A B n R := h2
    have hf : f = ((ra2.take k).count r : Int) := hf
    subst hf
    obtain ⟨cx, rx, cy, ry⟩ := hx w2 h2
    have hry := ry.len
    unfold trystlaw24_MixTurned.b4
    refine ⟨_, _, _, cy, ?_⟩
    refine cond_d (p := ((k : Nat) : Int) < ((sr2.len : Nat) : Int)) (fun hlt2 => ?_) fun hge2 => ?_
    · have hkl : k < ra2.length := by omega
      obtain ⟨s, hs⟩ : ∃ s, s = ra2[k] := ⟨_, rfl⟩
      have hsk : ra2[k]? = some s := by rw [hs]; exact List.getElem?_eq_getElem hkl
      obtain ⟨q, hq, q1, q2⟩ := rx.cell i r hri
      obtain ⟨q', hq', q1', q2'⟩ := ry.cell k s hsk
      have hcs : (ra2.take (k + 1)).count r = (ra2.take k).count r + if s = r then 1 else 0 := by
        rw [List.take_succ_eq_append_getElem hkl, List.count_append, ← hs, List.count_singleton]
        simp
      have hcl : (ra2.take k).count r ≤ k := Nat.le_trans List.count_le_length (by simp; omega)
      refine ⟨_, _, _, cx, by omega, hlt, q, hq, _, by rw [Int.toNat_natCast]; exact q1, _, _, _, cy, by omega, hlt2, q', hq', _, by rw [Int.toNat_natCast]; exact q1', cond_e (fun e1 => ?_) fun e1 => ?_⟩
      · refine ⟨_, _, _, cx, by omega, hlt, q, hq, _, by rw [Int.toNat_natCast]; exact q2, _, _, _, cy, by omega, hlt2, q', hq', _, by rw [Int.toNat_natCast]; exact q2', cond_e (fun e2 => ?_) fun e2 => ?_⟩
        · dsimp only
          rw [inc (by omega), w64 (by omega)]
          rw [if_pos (Prod.ext e1.symm e2.symm)] at hcs
          exact ⟨⟨rfl, rfl, rfl, k + 1, rfl, by omega, by rw [hcs]; rfl, h2.drew⟩, by (try dsimp only); omega⟩
        · dsimp only
          rw [inc (by omega)]
          rw [if_neg (fun he => e2 (by rw [he]))] at hcs
          exact ⟨⟨rfl, rfl, rfl, k + 1, rfl, by omega, by rw [hcs]; rfl, h2.drew⟩, by (try dsimp only); omega⟩
      · dsimp only
        rw [inc (by omega)]
        rw [if_neg (fun he => e1 (by rw [he]))] at hcs
        exact ⟨⟨rfl, rfl, rfl, k + 1, rfl, by omega, by rw [hcs]; rfl, h2.drew⟩, by (try dsimp only); omega⟩
    · unfold trystlaw24_MixTurned.c3
      rw [List.take_of_length_le (by omega), hc1]
      refine cond_n (fun hne => absurd rfl hne) fun _ => ?_
      dsimp only
      rw [inc (by omega)]
      exact ⟨⟨rfl, rfl, i + 1, rfl, by omega, h2⟩, by (try dsimp only); omega⟩
  · unfold trystlaw24_MixTurned.c1
    obtain ⟨M, h2, _⟩ := h1
    refine (wakes24 h2).mono ?_
    rintro _ w2 ⟨rfl, h3⟩
    exact ⟨_, rfl, hRR _ h3.b⟩

/-- two rounds' gifts, side by side -/
abbrev mt2 (x y : Addr) (sr1 sr2 so1 so2 : Sl) (ss1 ss2 : Nat → Sl) (st1 st2 : MxS) (out1 out2 : List Int) (Y : List Asn) : List Asn :=
  boxA y [sV sr2, sV (ss2 0), sV (ss2 1), sV (ss2 2)] :: (mixL sr2 ss2 st2 ++ (ownA so2 out2 :: (boxA x [sV sr1, sV (ss1 0), sV (ss1 1), sV (ss1 2)] :: (mixL sr1 ss1 st1 ++ (ownA so1 out1 :: Y)))))

set_option maxRecDepth 100000 in
theorem mt_c6 {so1 so2 : Sl} {ss1 ss2 : Nat → Sl} {st1 st2 : MxS} {out : List Int} (hRR : ∀ w, Below W.heap.size W w → RR (.bool true) w) (hin : ∀ L w', At W w' (L ++ Y) → Ints .i64 w' inS inA) (hp : st1.regs.Perm st2.regs) (hn : st1.regs.Nodup) (hl : st1.regs.length ≤ 100000) (h1 : st1.seen 0 = inA) (h2 : st2.seen 0 = inA) (hol : out.length ≤ 1000) (hil : inA.length ≤ 1000)
    (h : PairAt W w pp a b A B n (mt2 x y sr1 sr2 so1 so2 ss1 ss2 st1 st2 out out Y)) : trystlaw24_MixTurned.c6 RR inS x so1 0 y so2 0 w := by
  have hl2 := hp.length_eq
  unfold trystlaw24_MixTurned.c6
  refine cond_n (fun hne => absurd rfl hne) fun _ => cond_n (fun hne => absurd rfl hne) fun _ => ?_
  have hin' : ∀ w', PairAt W w' pp a b A B n (mt2 x y sr1 sr2 so1 so2 ss1 ss2 st1 st2 out out Y) → Ints .i64 w' inS inA := by
    rintro w' ⟨M, h3, _⟩
    exact hin (prA pp a b M :: arT a A :: pgT b B :: boxA y [sV sr2, sV (ss2 0), sV (ss2 1), sV (ss2 2)] :: (mixL sr2 ss2 st2 ++ (ownA so2 out :: (boxA x [sV sr1, sV (ss1 0), sV (ss1 1), sV (ss1 2)] :: (mixL sr1 ss1 st1 ++ [ownA so1 out]))))) w' h3
  have hregs : ∀ w', PairAt W w' pp a b A B n (mt2 x y sr1 sr2 so1 so2 ss1 ss2 st1 st2 out out Y) → w'.cell? x = some (sV sr1) ∧ Regs w' sr1 st1.regs ∧ w'.cell? y = some (sV sr2) ∧ Regs w' sr2 st2.regs := by
    intro w' h3
    refine ⟨h3.mcell0 6 rfl, ?_, h3.mcell0 0 rfl, ?_⟩
    · obtain ⟨M, h4, _⟩ := h3
      exact h4.regs 10 rfl
    · obtain ⟨M, h4, _⟩ := h3
      exact h4.regs 4 rfl
  refine (ints_spec (s := so1) (t := so2) (h.mread 11 rfl (by omega)) (h.mread 5 rfl (by omega))).mono ?_
  rintro _ w2 ⟨rfl, hs2⟩
  have h2' := h.same hs2
  refine ⟨_, rfl, cond_f' (by simp) ?_⟩
  obtain ⟨cx, rx, cy, ry⟩ := hregs w2 h2'
  have hrx := rx.len
  have hry := ry.len
  refine ⟨_, _, _, cx, _, _, _, cy, cond_n (fun hne => absurd (by omega) hne) fun _ => ?_⟩
  have c1 := h2'.mcell 6 rfl 1 rfl
  refine ⟨by omega, by omega, (ss1 0).a, (ss1 0).len, (ss1 0).cap, by rw [show ((0 : Int)).toNat = 0 from rfl, add_zero]; exact c1, ?_⟩
  refine (ints_spec (s := ss1 0) (t := inS) (h2'.mread 8 rfl (by rw [h1]; omega)) (hin' w2 h2')).mono ?_
  rintro _ w3 ⟨rfl, hs3⟩
  have h3 := h2'.same hs3
  refine ⟨_, rfl, cond_f' (by simp [h1]) ?_⟩
  have c2 := h3.mcell 0 rfl 1 rfl
  refine ⟨by omega, by omega, (ss2 0).a, (ss2 0).len, (ss2 0).cap, by rw [show ((0 : Int)).toNat = 0 from rfl, add_zero]; exact c2, ?_⟩
  refine (ints_spec (s := ss2 0) (t := inS) (h3.mread 2 rfl (by rw [h2]; omega)) (hin' w3 h3)).mono ?_
  rintro _ w4 ⟨rfl, hs4⟩
  refine ⟨_, rfl, cond_f' (by simp [h2]) ?_⟩
  exact mt_c5 hRR hregs hp hn hl (h3.same hs4)

/-- what the law has, ahead of the rounds -/
structure TuIn (A B : List Tm) (S P : List Nat) (os : List Oi) (inA : List Int) : Prop where
  srv : SrvIn B 9000 S P 3
  ons : OnsL B P 600 turQ os
  inp : EvL A B inA (onsX os)
theorem TuIn.mono {A' B' : List Tm} (hA : Ext A A') (hB : Ext B B') (h : TuIn A B S P os inA) : TuIn A' B' S P os inA := ⟨h.srv.mono hB, h.ons.mono turQ_mono hB, h.inp.mono hA hB⟩
abbrev tuR (inS seS puS : Sl) (inA : List Int) (S P : List Nat) : List Asn := [ownA inS inA, ownA seS (toI S), ownA puS (toI P)]

theorem permLen {Z : List (Sl × List Int)} {k : Nat} (hZ : Z.length = 3) (hZp : ∀ j, j < 3 → permOk (rowP Z j) k) (hk : k ≤ 1000) : ∀ z ∈ Z, z.2.length ≤ 1000000 := fun z hz => by
  obtain ⟨j, hj⟩ := List.getElem?_of_mem hz
  have hjl := (List.getElem?_eq_some_iff.1 hj).1
  have := (hZp j (by omega)).1
  unfold rowP at this
  rw [hj] at this
  have e : z.2.length = k := this
  omega

set_option maxRecDepth 100000 in
theorem mt_c8 (hRR : ∀ w, Below W.heap.size W w → RR (.bool true) w) (hI : TuIn A B S P os inA) (hl : os.length ≤ 12) (hn : n ≤ 1000) (hZu : Zu.length = 3) (hZup : ∀ k, k < 3 → permOk (rowP Zu k) os.length) (hZv : Zv.length = 3) (hZvp : ∀ k, k < 3 → permOk (rowP Zv k) os.length)
    (h : PairAt W w pp a b A B n (rowsL uS Zu ++ (rowsL vS Zv ++ tuR inS seS puS inA S P))) : trystlaw24_MixTurned.c8 RR (some pp) seS inS uS vS w := by
  rw [c8_ord]
  obtain ⟨srl, sri⟩ := srv_in hI.srv
  have hB := h.ok.2
  have hlB := h.lens.2
  have xl : (onsX os).length = os.length := by simp [onsX]
  have yl := hI.inp.1
  have hZul := permLen hZu hZup (by omega)
  have hZvl := permLen hZv hZvp (by omega)
  have hsep := tur_sep hI.ons hl
  have hinY : ∀ L w', At W w' (L ++ (rowsL vS Zv ++ tuR inS seS puS inA S P)) → Ints .i64 w' inS inA := fun L w' hw => rowsI 0 rfl (by omega) (L ++ rowsL vS Zv) w' (by rw [List.append_assoc]; exact hw)
  have hseY : ∀ L w', At W w' (L ++ (rowsL vS Zv ++ tuR inS seS puS inA S P)) → Ints .i64 w' seS (toI S) := fun L w' hw => rowsI 1 rfl (by omega) (L ++ rowsL vS Zv) w' (by rw [List.append_assoc]; exact hw)
  have fit : ∀ {K X : List Asn} {Q : World → Prop}, (∀ L w', At W w' (L ++ X) → Q w') → ∀ L w', At W w' (L ++ (K ++ X)) → Q w' := fun hX L w' hw => hX (L ++ _) w' (by rw [List.append_assoc]; exact hw)
  refine ord3_of (by omega) (by omega) sri (fit hinY) (fit hseY) (rowsRd hZul) (fun A' za hok hE hlen hz => ?_) (fun A' za sr ss so x w' hok hE hlen hz hP => ?_) h
  · exact (vround turQ_mono hok hB (by omega) (by omega) hI.srv hI.ons hsep (by omega) hz (hI.inp.mono hE (Ext.refl B)) hZu hZup).1
  · obtain ⟨w0, A1, B1, sA, sB, outB, e1, e2, k1, k2, x1, x2, l1, l2, ev, ol, hre, hrp, hse, hs, hnw, hnw0⟩ := vround turQ_mono hok hB (by omega) (by omega) hI.srv hI.ons hsep (by omega) hz (hI.inp.mono hE (Ext.refl B)) hZu hZup
    rw [e1, e2] at hP
    generalize (roundT A' ⟨[], fun _ => []⟩ za inA (rowP Zu)).2.2 = out1 at hP ev
    have h2 : PairAt W w' pp a b A1 B (n + 301) ((boxA x [sV sr, sV (ss 0), sV (ss 1), sV (ss 2)] :: (mixL sr ss sA ++ [ownA so out1])) ++ (rowsL vS Zv ++ tuR inS seS puS inA S P)) := by
      refine PairAt.cutM (K2 := rowsL uS Zu) ?_
      exact hP
    show trystlaw24_MixTurned.c7 RR (some pp) seS inS vS x so 0 w'
    rw [c7_ord]
    have hI1 := hI.mono (hE.trans x1) x2
    refine ord3_of (by omega) (by omega) sri (fit hinY) (fit hseY) (fit (rowsRd hZvl)) (fun A'' za' hok' hE' hlen' hz' => ?_) (fun A'' za' sr2 ss2 so2 y w2 hok' hE' hlen' hz' hP2 => ?_) h2
    · exact (vround turQ_mono hok' k2 (by omega) (by omega) hI1.srv hI1.ons hsep (by omega) (hz'.mono (Ext.refl _) x2) (hI1.inp.mono hE' (Ext.refl B1)) hZv hZvp).1
    · obtain ⟨w0', A2, B2, sA2, sB2, outB2, e1', e2', k1', k2', x1', x2', l1', l2', ev', ol', hre', hrp', hse', hs', hnw', hnw0'⟩ := vround turQ_mono hok' k2 (by omega) (by omega) hI1.srv hI1.ons hsep (by omega) (hz'.mono (Ext.refl _) x2) (hI1.inp.mono hE' (Ext.refl B1)) hZv hZvp
      rw [e1', e2'] at hP2
      generalize (roundT A'' ⟨[], fun _ => []⟩ za' inA (rowP Zv)).2.2 = out2 at hP2 ev'
      have eW : (wordT B).2.1 = (wordT B1).2.1 := by
        have := k2'.once _ _ _ (x2' _ _ hnw) hnw'
        omega
      have eo : outB = outB2 := by
        refine List.ext_getElem (by omega) fun i h1 h2 => ?_
        have a1 := (hs i (by omega)).mono x2'
        have a2 := hs' i (by omega)
        rw [List.getElem?_eq_getElem h1, Option.getD_some, eW] at a1
        rw [List.getElem?_eq_getElem h2, Option.getD_some] at a2
        exact a1.uniq k2' a2
      subst eo
      have eO : out1 = out2 := (ev.mono (hE'.trans x1') x2').left k1' ev'
      subst eO
      have hql : (onsQ os).length = os.length := by simp [onsQ]
      have hnd := wrs_nodup hsep
      rw [hql] at hnd
      obtain ⟨hp, hn⟩ := regs_perm k1' k2' (hre.mono (hE'.trans x1') x2') hre' (hrp.trans hrp'.symm) (hrp.nodup_iff.2 hnd)
      have hwl : (wrs (onsQ os) os.length).length ≤ os.length := by
        unfold wrs
        rw [List.length_map]
        exact Nat.le_trans (List.length_filter_le _ _) (by simp)
      have hr1 := hre.1
      have hr2 := hrp.length_eq
      have hol := ev'.1
      exact mt_c6 (Y := rowsL vS Zv ++ tuR inS seS puS inA S P) hRR hinY hp hn (by omega) hse hse' (by omega) (by omega) hP2
end

end Go.Proofs.YtoclhecldmahiaaDoor
