/-
  Disk: the page's disk in memory: contracts.
-/
import Derived.Test.YtnnpkjhpeefnbaaDiG
set_option linter.unusedVariables false
set_option linter.unusedSimpArgs false
namespace Go.Proofs.Ytnnpkjhpeefnbaa
open Go.Lf Go.RowKit

structure RC where
  sS : Sl
  sT : Sl
  sW : Sl
  sK : Sl
  S : List (Sl × List Int)
  T : List Bool
  W : List Wt
  armed : Int
  kl : List Bool
  tear : Int
  L : List (Sl × List Int)

def slV (y : Sl × List Int) : Value := .slice y.1.a y.1.len y.1.cap

def rl (r : Addr) (x : RC) (off : Bool) : List Asn :=
  [boxA r [.slice x.sS.a x.sS.len x.sS.cap, .slice x.sT.a x.sT.len x.sT.cap, .slice x.sW.a x.sW.len x.sW.cap, .bool off, .int .i64 x.armed, .slice x.sK.a x.sK.len x.sK.cap, .int .i64 x.tear],
   rowA 52 1 x.sS x.S.length (x.S.map slV), rowA 4 1 x.sT x.T.length (x.T.map Value.bool), rowA 98 2 x.sW x.W.length (flat Wt.cells x.W), rowA 4 1 x.sK x.kl.length (x.kl.map Value.bool), intsAll .u8 x.L]

def valR (t : Bool) (y : Sl × List Int) : Option (List Int) := if t = true then none else some y.2
def safeR (T : List Bool) (S : List (Sl × List Int)) : List (Option (List Int)) := List.zipWith valR T S

structure ROk (x : RC) (st : DS) : Prop where
  safe : st.safe = safeR x.T x.S
  lenT : x.T.length = x.S.length
  pend : st.pend = x.W.map Wt.val
  inS : ∀ y ∈ x.S, y ∈ x.L
  inW : ∀ y ∈ x.W, (y.s, y.xs) ∈ x.L ∧ y.i < x.S.length
  trip : st.trip = if x.armed > 0 then some (x.armed, x.kl, x.tear) else none
  small : x.armed ≤ 9223372036854775807
  few : x.S.length ≤ 512

def refA (r : Addr) (st : DS) : Asn := exA (fun x => ROk x st) (fun x => rl r x st.off)

theorem safeR_length {T : List Bool} {S : List (Sl × List Int)} (h : T.length = S.length) : (safeR T S).length = S.length := by simp [safeR, h]
theorem ROk.lenS {x : RC} {st : DS} (h : ROk x st) : st.safe.length = x.S.length := by rw [h.safe, safeR_length h.lenT]
theorem safeR_get {T : List Bool} {S : List (Sl × List Int)} {i : Nat} {t : Bool} {y : Sl × List Int} (ht : T[i]? = some t) (hy : S[i]? = some y) : (safeR T S)[i]? = some (valR t y) := by
  simp [safeR, List.getElem?_zipWith, ht, hy]
theorem safeR_set {T : List Bool} {S : List (Sl × List Int)} (h : T.length = S.length) {i : Nat} (hi : i < S.length) (t : Bool) (y : Sl × List Int) : safeR (T.set i t) (S.set i y) = (safeR T S).set i (valR t y) := by
  apply List.ext_getElem?
  intro j
  by_cases hj : i = j
  · subst hj
    rw [List.getElem?_set_self (by rw [safeR_length h]; exact hi)]
    exact safeR_get (List.getElem?_set_self (by omega)) (List.getElem?_set_self hi)
  · rw [List.getElem?_set_ne hj]
    simp [safeR, List.getElem?_zipWith, List.getElem?_set_ne hj]
theorem safeR_torn {T : List Bool} {S : List (Sl × List Int)} (h : T.length = S.length) {i : Nat} (hi : i < S.length) : safeR (T.set i true) S = (safeR T S).set i none := by
  have h1 := safeR_set h hi true S[i]
  rwa [List.set_getElem_self] at h1

/-! reading -/

theorem rread_spec {B : Nat} {w : World} {r : Addr} {st : DS} {R : List Asn} (h : Sep B w (refA r st :: R)) (hpl : st.pend.length ≤ 1000000) (i : Int) :
    CallsV Try.prog n_trystref10_Disk_Read #[.pointer (some r), .int .i64 i] w fun v w' => (∃ s : Sl, v = .tuple #[.slice s.a s.len s.cap, .int .i64 (readD st i).2] ∧ Ints .u8 w' s (readD st i).1) ∧ w = w' := by
  obtain ⟨x, hx, hS⟩ := h.unfold
  refine trystref10_Disk_Read.lift ?_
  unfold trystref10_Disk_Read.main
  have hlS := (hS.rowLen 1 rfl).1
  have hlT := (hS.rowLen 2 rfl).1
  have hlW := (hS.rowLen 3 rfl).1
  have hsl := hx.lenS
  have bad : ∀ e : Int, readD st i = ([], e) → (∃ s : Sl, (Value.tuple #[.slice none 0 0, .int .i64 e]) = .tuple #[.slice s.a s.len s.cap, .int .i64 (readD st i).2] ∧ Ints .u8 w s (readD st i).1) ∧ w = w := by
    intro e he
    rw [he]
    exact ⟨⟨⟨none, 0, 0⟩, rfl, Ints.nil⟩, rfl⟩
  refine ⟨r, rfl, st.off, hS.cell 0 rfl 3 rfl, cond_c (fun ho => bad 9 (by rw [readD, wrongD, if_pos ho, if_pos (by omega)])) fun ho => ?_⟩
  have hw : wrongD st i = if i < 0 ∨ (st.safe.length : Int) ≤ i then 1 else 0 := by rw [wrongD, if_neg (by rw [ho]; simp)]
  have bad1 : (i < 0 ∨ (st.safe.length : Int) ≤ i) → readD st i = ([], 1) := fun hh => by
    have e : wrongD st i = 1 := by rw [hw, if_pos hh]
    rw [readD, e, if_pos (by omega)]
  refine cond_d (fun hi => bad 1 (bad1 (.inl hi))) fun hi => ⟨r, rfl, _, _, _, hS.cell0 0 rfl rfl, cond_d (fun hi2 => bad 1 (bad1 (.inr (by omega)))) fun hi2 => ?_⟩
  obtain ⟨j, rfl⟩ : ∃ j : Nat, i = j := ⟨i.toNat, by omega⟩
  have hj : j < x.S.length := by omega
  have hr : readD st (j : Int) = match (nowOf st.safe st.pend)[j]?.getD none with | none => ([], 10) | some b => (b, 0) := by
    have h0 : wrongD st (j : Int) = 0 := by rw [hw, if_neg (by omega)]
    rw [readD, h0, if_neg (by simp), Int.toNat_natCast]; rfl
  unfold trystref10_Disk_Read.c3
  refine ⟨r, rfl, _, _, _, hS.cell 0 rfl 2 rfl, ?_⟩
  intro k6
  have hpW : st.pend.length = x.W.length := by rw [hx.pend, List.length_map]
  have hk6 : k6 = (x.W.length : Int) - 1 := by show IntKind.i64.wrap _ = _; rw [w64 (by omega), hlW]
  clear_value k6; subst hk6
  unfold trystref10_Disk_Read.l2
  refine ⟨fun t w' => (∃ k : Nat, t = (k : Int) - 1 ∧ k ≤ x.W.length ∧ (nowOf st.safe st.pend)[j]? = (nowOf st.safe (st.pend.take k))[j]?) ∧ w = w', fun t _ => (t + 1).toNat, ⟨⟨x.W.length, rfl, Nat.le_refl _, by rw [List.take_of_length_le (by omega)]⟩, rfl⟩, ?_⟩
  rintro _ _ ⟨⟨k, rfl, hk, he⟩, rfl⟩
  unfold trystref10_Disk_Read.b2
  refine cond_d (fun h0 => ?_) fun h0 => ?_
  · obtain ⟨m, rfl⟩ : ∃ m, k = m + 1 := ⟨k - 1, by omega⟩
    have em : ((m + 1 : Nat) : Int) - 1 = (m : Int) := by omega
    rw [em]
    obtain ⟨y, hy⟩ : ∃ y, x.W[m]? = some y := ⟨_, List.getElem?_eq_getElem (by omega)⟩
    have hyP : st.pend[m]? = some y.val := by rw [hx.pend, List.getElem?_map, hy]; rfl
    obtain ⟨q, hq, hc⟩ := hS.rowGet 3 (by omega) Wt.w rfl hy
    have hc0 := hc 0 _ rfl
    rw [add_zero] at hc0
    obtain ⟨hyL, hyi⟩ := hx.inW y (List.mem_of_getElem? hy)
    have htk : st.pend.take (m + 1) = st.pend.take m ++ [y.val] := by rw [List.take_add_one, hyP]; rfl
    have hst : (nowOf st.safe (st.pend.take (m + 1)))[j]? = ((nowOf st.safe (st.pend.take m)).set y.i (some y.xs))[j]? := by rw [htk]; exact congrArg (·[j]?) (nowOf_app _ _ _ _)
    rw [hst] at he
    refine ⟨r, rfl, _, _, _, hS.cell 0 rfl 2 rfl, by omega, by omega, q, hq, _, by rw [Int.toNat_natCast]; exact hc0, cond_e (fun hij => ?_) fun hij => ?_⟩
    · have hij : y.i = j := by omega
      subst hij
      rw [List.getElem?_set_self (by rw [nowOf_length, hsl]; exact hyi)] at he
      rw [he] at hr
      have hr : readD st (y.i : Int) = (y.xs, 0) := hr
      refine ⟨r, rfl, _, _, _, hS.cell 0 rfl 2 rfl, by omega, by omega, q, hq, _, _, _, by rw [Int.toNat_natCast]; exact hc 1 _ rfl, ?_⟩
      rw [hr]
      exact ⟨⟨y.s, rfl, hS.intsAt 5 rfl hyL⟩, rfl⟩
    · rw [List.getElem?_set_ne (by omega)] at he
      intro k6
      have hk6 : k6 = (m : Int) - 1 := w64 (by omega)
      clear_value k6; subst hk6
      exact ⟨⟨rfl, rfl, ⟨m, rfl, by omega, he⟩, rfl⟩, by (try dsimp only); omega⟩
  · have hk0 : k = 0 := by omega
    subst hk0
    have he : (nowOf st.safe st.pend)[j]? = st.safe[j]? := he
    obtain ⟨t, ht⟩ : ∃ t, x.T[j]? = some t := ⟨_, List.getElem?_eq_getElem (by have := hx.lenT; omega)⟩
    obtain ⟨y, hy⟩ : ∃ y, x.S[j]? = some y := ⟨_, List.getElem?_eq_getElem hj⟩
    have hv : readD st (j : Int) = match valR t y with | none => ([], 10) | some b => (b, 0) := by rw [hr, he, hx.safe, safeR_get ht hy]; rfl
    obtain ⟨qT, hqT, hcT⟩ := hS.rowCell 2 rfl (j := j) (by rw [List.length_map]; have := hx.lenT; omega)
    obtain ⟨qS, hqS, hcS⟩ := hS.rowCell 1 rfl (j := j) (by rw [List.length_map]; exact hj)
    unfold trystref10_Disk_Read.c1
    refine ⟨r, rfl, _, _, _, hS.cell 0 rfl 1 rfl, by omega, by have := hx.lenT; omega, qT, hqT, t, by rw [Int.toNat_natCast]; exact hcT j _ (by rw [List.getElem?_map, ht]; rfl), cond_c (fun htt => bad 10 (by rw [hv, valR, if_pos htt])) fun htt => ?_⟩
    refine ⟨r, rfl, _, _, _, hS.cell0 0 rfl rfl, by omega, by omega, qS, hqS, y.1.a, y.1.len, y.1.cap, by rw [Int.toNat_natCast]; exact hcS j _ (by rw [List.getElem?_map, hy]; rfl), ?_⟩
    have hv' : readD st (j : Int) = (y.2, 0) := by rw [hv, valR, if_neg (by rw [htt]; simp)]
    rw [hv']
    exact ⟨⟨y.1, rfl, hS.intsAt 5 rfl (hx.inS y (List.mem_of_getElem? hy))⟩, rfl⟩

/-! a crash -/

theorem rcrash_core {B : Nat} {w : World} {r : Addr} {x : RC} {st : DS} {R : List Asn} (hx : ROk x st) (h : Sep B w (rl r x st.off ++ R)) {keep : Sl} {kl : List Bool} (torn : Int) (hpl : st.pend.length ≤ 1000000)
    (hk : ∀ w' S T, Below B w w' → Sep B w' (rl r { x with S := S, T := T } st.off ++ R) → BoolsR w' keep kl) :
    CallsV Try.prog n_trystref10_Disk_Crash #[.pointer (some r), .slice keep.a keep.len keep.cap, .int .i64 torn] w fun v w' => v = .tuple #[] ∧ Sep B w' (refA r (crashD st kl torn) :: R) ∧ Below B w w' := by
  refine trystref10_Disk_Crash.lift ?_
  unfold trystref10_Disk_Crash.main
  have hlW := (h.rowLen 3 rfl).1
  have hsl := hx.lenS
  have hpW : st.pend.length = x.W.length := by rw [hx.pend, List.length_map]
  refine ⟨r, rfl, st.off, h.cell 0 rfl 3 rfl, cond_c (fun ho => ⟨rfl, ?_, Below.refl _ _⟩) fun ho => ?_⟩
  · rw [crashD, if_pos ho]
    exact Sep.fold x hx h
  unfold trystref10_Disk_Crash.l2
  refine ⟨fun t w' => ∃ k : Nat, t = k ∧ k ≤ x.W.length ∧ ∃ (S : List (Sl × List Int)) (T : List Bool), S.length = x.S.length ∧ T.length = S.length ∧ (∀ y ∈ S, y ∈ x.L) ∧ crashSafe kl torn 0 st.pend st.safe = crashSafe kl torn k (st.pend.drop k) (safeR T S) ∧
    Sep B w' (rl r { x with S := S, T := T } st.off ++ R) ∧ Below B w w', fun t _ => x.W.length - t.toNat, ⟨0, rfl, Nat.zero_le _, x.S, x.T, rfl, hx.lenT, hx.inS, by rw [hx.safe]; rfl, h, Below.refl _ _⟩, ?_⟩
  rintro _ w1 ⟨k, rfl, hkl, S, T, hSl, hTl, hSL, hcs, hS, hb⟩
  unfold trystref10_Disk_Crash.b2
  refine ⟨r, rfl, _, _, _, hS.cell 0 rfl 2 rfl, cond_d (fun hlt => ?_) fun hge => ?_⟩
  · have hkW : k < x.W.length := by have : (k : Int) < (x.sW.len : Int) := hlt; omega
    obtain ⟨y, hy⟩ : ∃ y, x.W[k]? = some y := ⟨_, List.getElem?_eq_getElem hkW⟩
    obtain ⟨hyL, hyi⟩ := hx.inW y (List.mem_of_getElem? hy)
    have hyP : st.pend[k]? = some y.val := by rw [hx.pend, List.getElem?_map, hy]; rfl
    obtain ⟨q, hq, hc⟩ := hS.rowGet 3 (by omega) Wt.w rfl hy
    have hc0 := hc 0 _ rfl
    rw [add_zero] at hc0
    have hlS := (hS.rowLen 1 rfl).1
    have hlT := (hS.rowLen 2 rfl).1
    have hlS' : x.sS.len = S.length := hlS
    have hlT' : x.sT.len = T.length := hlT
    have hyS : y.i < S.length := by omega
    obtain ⟨qT, hqT, _⟩ := hS.rowCell 2 rfl (j := y.i) (by rw [List.length_map]; show y.i < T.length; omega)
    obtain ⟨qS, hqS, _⟩ := hS.rowCell 1 rfl (j := y.i) (by rw [List.length_map]; exact hyS)
    have hqT' : x.sT.a = some qT := hqT
    have hqS' : x.sS.a = some qS := hqS
    have hq' : x.sW.a = some q := hq
    have hnext : ∀ (S' : List (Sl × List Int)) (T' : List Bool) (w' : World), S'.length = x.S.length → T'.length = S'.length → (∀ y ∈ S', y ∈ x.L) →
        (if (k : Int) = torn then (safeR T S).set y.i none else if kl[k]?.getD false = true then (safeR T S).set y.i (some y.xs) else safeR T S) = safeR T' S' →
        Sep B w' (rl r { x with S := S', T := T' } st.off ++ R) → Below B w w' →
        (let k6_52 : Int := IntKind.i64.wrap ((k : Int) + 1); (some r = some r ∧ keep = keep ∧ torn = torn ∧ ∃ k : Nat, k6_52 = k ∧ k ≤ x.W.length ∧ ∃ (S : List (Sl × List Int)) (T : List Bool), S.length = x.S.length ∧ T.length = S.length ∧ (∀ y ∈ S, y ∈ x.L) ∧ crashSafe kl torn 0 st.pend st.safe = crashSafe kl torn k (st.pend.drop k) (safeR T S) ∧
          Sep B w' (rl r { x with S := S, T := T } st.off ++ R) ∧ Below B w w') ∧ x.W.length - k6_52.toNat < x.W.length - (k : Int).toNat) := by
      intro S' T' w' h1 h2 h3 h4 h5 h6
      rw [inc (by omega)]
      refine ⟨⟨rfl, rfl, rfl, k + 1, rfl, hkW, S', T', h1, h2, h3, ?_, h5, h6⟩, by (try dsimp only); omega⟩
      rw [hcs, drop_at hyP]
      exact congrArg (crashSafe kl torn (k + 1) (st.pend.drop (k + 1))) h4
    refine cond_e (fun htorn => ?_) fun hntorn => ?_
    · obtain ⟨h2, hb2⟩ := hS.drew.rowSet 2 rfl hqT' (j := y.i) (by rw [List.length_map]; show y.i < T.length; omega) (.bool true)
      refine ⟨fun u => u = w1.drew, rfl, r, rfl, _, _, _, fun u hu => by rw [hu]; exact hS.cell 0 rfl 1 rfl, r, rfl, _, _, _, fun u hu => by rw [hu]; exact hS.cell 0 rfl 2 rfl, by omega, hlt, q, hq', _, fun u hu => by rw [hu, Int.toNat_natCast]; exact hc0, by omega, by show (y.i : Int) < (x.sT.len : Int); omega, qT, hqT', by rw [Int.toNat_natCast]; exact hS.drew.rowWr 2 rfl hqT' (by rw [List.length_map]; show y.i < T.length; omega), ?_⟩
      rw [Int.toNat_natCast]
      refine hnext S (T.set y.i true) _ hSl (by rw [List.length_set, hTl]) hSL (by rw [if_pos htorn, safeR_torn hTl hyS]) ?_ ((hb.trans ((Same.drew w1).below B)).trans hb2)
      unfold rl at h2 ⊢
      simp only [List.cons_append, List.set_cons_succ, List.set_cons_zero, List.length_set, List.map_set] at h2 ⊢
      exact h2
    · have hBk := hk w1 S T hb hS
      refine cond_d (fun hkk => ?_) fun hkk => hnext S T w1 hSl hTl hSL (by rw [if_neg hntorn, List.getElem?_eq_none (by have := hBk.len; omega), if_neg (by simp)]) hS hb
      obtain ⟨p, hp, hcp⟩ := hBk.get hkk
      refine ⟨by omega, hkk, p, hp, _, by rw [Int.toNat_natCast]; exact hcp, cond_c (fun hbb => ?_) fun hbb => hnext S T w1 hSl hTl hSL (by rw [if_neg hntorn, if_neg (by rw [hbb]; simp)]) hS hb⟩
      unfold trystref10_Disk_Crash.c3
      obtain ⟨h2, hb2⟩ := hS.drew.rowSet 1 rfl hqS' (j := y.i) (by rw [List.length_map]; exact hyS) (.slice y.s.a y.s.len y.s.cap)
      have h2' : Sep B (w1.drew.setCell (qS.add y.i) (.slice y.s.a y.s.len y.s.cap)) (rl r { x with S := S.set y.i (y.s, y.xs), T := T } st.off ++ R) := by
        unfold rl at h2 ⊢
        simp only [List.cons_append, List.set_cons_succ, List.set_cons_zero, List.length_set, List.map_set] at h2 ⊢
        exact h2
      obtain ⟨h3, hb3⟩ := h2'.rowSet 2 rfl hqT' (j := y.i) (by rw [List.length_map]; show y.i < T.length; omega) (.bool false)
      refine ⟨fun u => u = w1.drew, rfl, r, rfl, _, _, _, fun u hu => by rw [hu]; exact hS.cell0 0 rfl rfl, r, rfl, _, _, _, fun u hu => by rw [hu]; exact hS.cell 0 rfl 2 rfl, by omega, hlt, q, hq', _, fun u hu => by rw [hu, Int.toNat_natCast]; exact hc0, r, rfl, _, _, _, fun u hu => by rw [hu]; exact hS.cell 0 rfl 1 rfl,
        r, rfl, _, _, _, fun u hu => by rw [hu]; exact hS.cell 0 rfl 2 rfl, by omega, hlt, q, hq', _, fun u hu => by rw [hu, Int.toNat_natCast]; exact hc0, r, rfl, _, _, _, fun u hu => by rw [hu]; exact hS.cell 0 rfl 2 rfl, by omega, hlt, q, hq', _, _, _, fun u hu => by rw [hu, Int.toNat_natCast]; exact hc 1 _ rfl,
        by omega, by show (y.i : Int) < (x.sS.len : Int); omega, qS, hqS', by rw [Int.toNat_natCast]; exact hS.drew.rowWr 1 rfl hqS' (by rw [List.length_map]; exact hyS), ?_⟩
      rw [Int.toNat_natCast]
      refine ⟨by omega, by show (y.i : Int) < (x.sT.len : Int); omega, qT, hqT', h2'.rowWr 2 rfl hqT' (by rw [List.length_map]; show y.i < T.length; omega), ?_⟩
      refine hnext (S.set y.i (y.s, y.xs)) (T.set y.i false) _ (by rw [List.length_set, hSl]) (by rw [List.length_set, List.length_set, hTl]) (fun z hz => ?_) (by rw [if_neg hntorn, if_pos hbb, safeR_set hTl hyS]; rfl) ?_ (((hb.trans ((Same.drew w1).below B)).trans hb2).trans hb3)
      · rcases List.mem_or_eq_of_mem_set hz with hz | rfl
        · exact hSL z hz
        · exact hyL
      · unfold rl at h3 ⊢
        simp only [List.cons_append, List.set_cons_succ, List.set_cons_zero, List.length_set, List.map_set] at h3 ⊢
        exact h3
  · have hke : k = x.W.length := by have : ¬ (k : Int) < (x.sW.len : Int) := hge; omega
    have hcs' : crashSafe kl torn 0 st.pend st.safe = safeR T S := by
      rw [hcs, List.drop_eq_nil_of_le (by omega)]; rfl
    unfold trystref10_Disk_Crash.c1
    obtain ⟨h2, hb2⟩ := hS.set 0 rfl (j := 2) (by simp) (.slice none 0 0)
    obtain ⟨h3, hb3⟩ := h2.set 0 rfl (j := 3) (by simp) (.bool true)
    obtain ⟨h4, hb4⟩ := h3.set 0 rfl (j := 4) (by simp) (.int .i64 0)
    obtain ⟨h5, hb5⟩ := h4.set 0 rfl (j := 5) (by simp) (.slice none 0 0)
    refine ⟨r, rfl, hS.wr 0 rfl (j := 2) (by simp), r, rfl, h2.wr 0 rfl (j := 3) (by simp), r, rfl, h3.wr 0 rfl (j := 4) (by simp), r, rfl, h4.wr 0 rfl (j := 5) (by simp), rfl, ?_, (((hb.trans hb2).trans hb3).trans hb4).trans hb5⟩
    rw [crashD, if_neg (by rw [ho]; simp)]
    have hz : ∀ e s F (u : World), (rowA e s ⟨none, 0, 0⟩ 0 []).on F u := fun e s F u => ⟨World.ownsRow_nil _ _ _ _, fun q hq => by cases hq⟩
    refine Sep.fold { x with S := S, T := T, sW := ⟨none, 0, 0⟩, W := [], sK := ⟨none, 0, 0⟩, kl := [], armed := 0 } ⟨hcs', hTl, rfl, hSL, (fun y hy => by cases hy), rfl, by simp only; omega, by have := hx.few; simp only; omega⟩ ?_
    exact (h5.triv (A := rowA 98 2 ⟨none, 0, 0⟩ 0 []) 3 (by simp [rl]) fun F => hz 98 2 F _).triv (A := rowA 4 1 ⟨none, 0, 0⟩ 0 []) 4 (by simp [rl]) fun F => hz 4 1 F _

end Go.Proofs.Ytnnpkjhpeefnbaa
