/-
  Terms: what is opened, of both arenas: contracts.
-/
import Derived.Test.YtpihglmgkfecbaaDoorTmD
set_option linter.unusedVariables false
set_option linter.unusedSimpArgs false
namespace Go.Proofs.YtpihglmgkfecbaaDoor
open Go.Lf Go.RowKit

theorem two_in {T : List Tm} {i k : Int} : (∀ x ∈ [i, k], inT T x) ↔ inT T i ∧ inT T k := by simp

theorem drop_ints {w : World} {s : Sl} {xs : List Int} (h : Ints .i64 w s xs) (hc : s.len ≤ s.cap) (m : Nat) (hm : m ≤ xs.length) :
    Ints .i64 w ⟨if (((s.cap : Nat) : Int)).toNat = ((m : Int)).toNat then s.a else s.a.map (·.add ((m : Int)).toNat), ((s.len : Nat) : Int).toNat - ((m : Int)).toNat, ((s.cap : Nat) : Int).toNat - ((m : Int)).toNat⟩ (xs.drop m) := h.drop hm hc

theorem open_spec {B : Nat} {w : World} {p : Addr} {N : Nds} {R : List Asn} (h : Sep B w (arA p N :: R)) (i k : Int) :
    CallsV Tryd.prog n_term_Arena_Open #[.pointer (some p), .int .i64 i, .int .i64 k] w fun v w' => ∃ s' : Sl, v = .tuple #[.slice s'.a s'.len s'.cap, .int .i64 (openT (terms N) i k).2] ∧
      Sep B w' (ownA s' (openT (terms N) i k).1 :: arA p N :: R) ∧ Below B w w' := by
  refine term_Arena_Open.lift ?_
  unfold term_Arena_Open.main
  intro w1
  have hb1 : Below w.heap.size w w1 := below_alloc _ _
  have h1 := h.keep hb1
  have hB1 := hb1.mono h.le
  have hI : Ints .i64 w1 ⟨some (newA w), 2, 2⟩ [i, k] := ints_two i k
  clear_value w1
  obtain ⟨⟨sl, m⟩, ⟨hok, hcaps⟩, hS⟩ := h1.unfold
  have hS : Sep B w1 (arL 43 p N sl m ++ R) := hS
  have hsl : sl.len = N.length := (hS.rowLen 1 rfl).1
  have none' : ∀ e w', openT (terms N) i k = ([], e) → Sep B w' (arA p N :: R) → Below B w w' → ∃ s' : Sl, Value.tuple #[.slice none 0 0, .int .i64 e] = .tuple #[.slice s'.a s'.len s'.cap, .int .i64 (openT (terms N) i k).2] ∧ Sep B w' (ownA s' (openT (terms N) i k).1 :: arA p N :: R) ∧ Below B w w' :=
    fun e w' he hs hb => ⟨⟨none, 0, 0⟩, by rw [he], by rw [he]; exact hs.rowNil 3 1, hb⟩
  refine (has_spec (s := ⟨some (newA w), 2, 2⟩) (T := terms N) (by rw [terms_len, ← hsl]; exact hS.cell0 0 rfl rfl) hI).mono ?_
  rintro _ _ ⟨rfl, rfl⟩
  refine ⟨_, rfl, cond_not (fun hb => none' _ _ ?_ h1 hB1) fun hb => ?_⟩
  · unfold openT; rw [if_pos (by rw [← two_in]; exact of_decide_eq_false hb)]
  have hb := two_in.1 (of_decide_eq_true hb)
  obtain ⟨sx, hx⟩ := at_in hb.1
  have hi : 0 ≤ i ∧ i < (N.length : Int) := by have := hb.1; unfold inT at this; rw [terms_len] at this; exact this
  obtain ⟨q, hq, hc⟩ := hS.rowGet 1 (by omega) nodeC.w rfl hx
  have hc0 := hc 0 _ rfl
  rw [add_zero] at hc0
  have e1 : ∀ {a b : List Int × Int}, (if ¬ (inT (terms N) i ∧ inT (terms N) k) then a else b) = b := fun {a b} => if_neg (fun h => h hb)
  obtain ⟨o1, o2, o3, o4, o5, o6⟩ := ok_at hok hb.1
  refine ⟨p, rfl, _, _, _, hS.cell0 0 rfl rfl, hi.1, by omega, q, hq, _, hc0, cond_n (fun hk => none' _ _ ?_ h1 hB1) fun hk => ?_⟩
  · unfold openT; rw [e1, if_pos hk]
  have hk : (tmAt (terms N) i).kind = 6 := hk
  have hl1 : 1 ≤ (tmAt (terms N) i).args.length := by rw [hk] at o3; exact o3
  have hIa := argsAt 3 rfl hS hx
  obtain ⟨hpos, q2, hq2, hc2⟩ := arg_get hIa hl1
  refine ⟨p, rfl, _, _, _, hS.cell0 0 rfl rfl, hi.1, by omega, q, hq, _, _, _, hc 2 _ rfl, by omega, hpos, q2, hq2, _, hc2, cond_n (fun ha => none' _ _ ?_ h1 hB1) fun ha => ?_⟩
  · unfold openT; rw [e1, if_neg (by rw [hk]; decide), if_pos ha]
  have hcap := hcaps _ (List.mem_of_getElem? hx)
  have hlen := hIa.len
  refine ⟨p, rfl, _, _, _, hS.cell0 0 rfl rfl, hi.1, by omega, q, hq, _, _, _, hc 2 _ rfl, by omega, by (try dsimp only at hlen ⊢); omega, by (try dsimp only at hcap ⊢); omega, by omega, ?_⟩
  have hml := most_le (tmAt (terms N) i).kind
  refine (clone_spec (drop_ints hIa hcap 1 hl1) (by rw [List.length_drop]; show (tmAt (terms N) i).args.length - 1 ≤ _; omega)).mono ?_
  rintro _ w3 ⟨s', rfl, ho, hb3⟩
  have er : openT (terms N) i k = ((tmAt (terms N) i).args.drop 1, 0) := by unfold openT; rw [e1, if_neg (by rw [hk]; decide), if_neg (fun h => h ha)]
  refine ⟨_, _, _, rfl, s', by rw [er], by rw [er]; exact Sep.row h1 ho hb3, hB1.next hb3 h.le⟩

theorem unbox_spec {B : Nat} {w : World} {p : Addr} {N : Nds} {R : List Asn} (h : Sep B w (arA p N :: R)) (i k : Int) :
    CallsV Tryd.prog n_term_Arena_Unbox #[.pointer (some p), .int .i64 i, .int .i64 k] w fun v w' => ∃ s' : Sl, v = .tuple #[.slice s'.a s'.len s'.cap, .int .i64 (unboxT (terms N) i k).2] ∧
      Sep B w' (ownA s' (unboxT (terms N) i k).1 :: arA p N :: R) ∧ Below B w w' := by
  refine term_Arena_Unbox.lift ?_
  unfold term_Arena_Unbox.main
  intro w1
  have hb1 : Below w.heap.size w w1 := below_alloc _ _
  have h1 := h.keep hb1
  have hB1 := hb1.mono h.le
  have hI : Ints .i64 w1 ⟨some (newA w), 2, 2⟩ [i, k] := ints_two i k
  clear_value w1
  obtain ⟨⟨sl, m⟩, ⟨hok, hcaps⟩, hS⟩ := h1.unfold
  have hS : Sep B w1 (arL 43 p N sl m ++ R) := hS
  have hsl : sl.len = N.length := (hS.rowLen 1 rfl).1
  have none' : ∀ e w', unboxT (terms N) i k = ([], e) → Sep B w' (arA p N :: R) → Below B w w' → ∃ s' : Sl, Value.tuple #[.slice none 0 0, .int .i64 e] = .tuple #[.slice s'.a s'.len s'.cap, .int .i64 (unboxT (terms N) i k).2] ∧ Sep B w' (ownA s' (unboxT (terms N) i k).1 :: arA p N :: R) ∧ Below B w w' :=
    fun e w' he hs hb => ⟨⟨none, 0, 0⟩, by rw [he], by rw [he]; exact hs.rowNil 3 1, hb⟩
  refine (has_spec (s := ⟨some (newA w), 2, 2⟩) (T := terms N) (by rw [terms_len, ← hsl]; exact hS.cell0 0 rfl rfl) hI).mono ?_
  rintro _ _ ⟨rfl, rfl⟩
  refine ⟨_, rfl, cond_not (fun hb => none' _ _ ?_ h1 hB1) fun hb => ?_⟩
  · unfold unboxT; rw [if_pos (by rw [← two_in]; exact of_decide_eq_false hb)]
  have hb := two_in.1 (of_decide_eq_true hb)
  obtain ⟨sx, hx⟩ := at_in hb.1
  have hi : 0 ≤ i ∧ i < (N.length : Int) := by have := hb.1; unfold inT at this; rw [terms_len] at this; exact this
  obtain ⟨q, hq, hc⟩ := hS.rowGet 1 (by omega) nodeC.w rfl hx
  have hc0 := hc 0 _ rfl
  rw [add_zero] at hc0
  have e1 : ∀ {a b : List Int × Int}, (if ¬ (inT (terms N) i ∧ inT (terms N) k) then a else b) = b := fun {a b} => if_neg (fun h => h hb)
  obtain ⟨o1, o2, o3, o4, o5, o6⟩ := ok_at hok hb.1
  refine ⟨p, rfl, _, _, _, hS.cell0 0 rfl rfl, hi.1, by omega, q, hq, _, hc0, _, hc 1 _ rfl, _, _, _, hc 2 _ rfl, ?_⟩
  intro w4
  refine ⟨fun j hj => wr_new _ _ _ (by simpa using hj), ?_⟩
  intro w5
  have e5 : w5 = w1.alloc (.cells #[.int .i64 (tmAt (terms N) i).kind, .int .i64 (tmAt (terms N) i).n, .slice sx.a sx.len sx.cap] 43) := box_set3
  clear_value w5
  obtain ⟨hS5, hb5⟩ := hS.box [.int .i64 (tmAt (terms N) i).kind, .int .i64 (tmAt (terms N) i).n, .slice sx.a sx.len sx.cap] 43
  rw [show (w1.alloc (.cells [Value.int .i64 (tmAt (terms N) i).kind, .int .i64 (tmAt (terms N) i).n, .slice sx.a sx.len sx.cap].toArray 43)) = w5 from e5.symm] at hS5 hb5
  have hB5 := hB1.trans hb5
  generalize newA w1 = tb at hS5 ⊢
  have arOf : ∀ {w' : World} {X : Asn}, Sep B w' (X :: (arL 43 p N sl m ++ R)) → Sep B w' (arA p N :: R) := fun h => Sep.fold (sl, m) ⟨hok, hcaps⟩ h.drop
  refine ⟨_, hS5.cell0 0 rfl rfl, cond_n (fun hk => none' _ _ ?_ (arOf hS5) hB5) fun hk => ?_⟩
  · unfold unboxT; rw [e1, if_pos hk]
  have hk : (tmAt (terms N) i).kind = 7 := hk
  have hl2 : 2 ≤ (tmAt (terms N) i).args.length := by rw [hk] at o3; exact o3
  have hS6 := hS5.drew
  have hIa := argsAt 4 rfl hS6 hx
  obtain ⟨hpos, q2, hq2, hc2⟩ := arg_get hIa (by show 1 ≤ (tmAt (terms N) i).args.length; omega)
  have ha0 : 0 ≤ arg0 (tmAt (terms N) i) ∧ arg0 (tmAt (terms N) i) < i := by
    have : arg0 (tmAt (terms N) i) = (tmAt (terms N) i).args[0]'(by omega) := by unfold arg0; rw [List.getElem?_eq_getElem (by omega)]; rfl
    exact o5 _ (by rw [this]; exact List.getElem_mem _)
  have hin0 : inT (terms N) (arg0 (tmAt (terms N) i)) := by unfold inT; rw [terms_len]; omega
  obtain ⟨sy, hy⟩ := at_in hin0
  obtain ⟨q', hq', hd⟩ := hS6.rowGet 2 (by omega) nodeC.w rfl hy
  have hd0 := hd 0 _ rfl
  rw [add_zero] at hd0
  refine ⟨fun y => y.cell? p = some (.slice sl.a sl.len sl.cap) ∧ Sep B y (boxA tb [.int .i64 (tmAt (terms N) i).kind, .int .i64 (tmAt (terms N) i).n, .slice sx.a sx.len sx.cap] :: (arL 43 p N sl m ++ R)), ⟨hS6.cell0 1 rfl rfl, hS6⟩, p, rfl, _, _, _, fun y hy => hy.1, _, _, _, fun y hy => hy.2.cell 0 rfl 2 rfl, by omega, hpos, q2, hq2, arg0 (tmAt (terms N) i),
    fun y hy => ?_, ha0.1, by omega, q', hq', (tmAt (terms N) (arg0 (tmAt (terms N) i))).kind, fun y hy' => ?_, (tmAt (terms N) (arg0 (tmAt (terms N) i))).n, fun y hy' => ?_, sy.a, sy.len, sy.cap, fun y hy' => ?_, ?_⟩
  · obtain ⟨_, q3, hq3, hc3⟩ := arg_get (argsAt 4 rfl hy.2 hx) (by show 1 ≤ (tmAt (terms N) i).args.length; omega)
    rw [hq2] at hq3
    obtain rfl := Option.some.inj hq3
    exact hc3
  · obtain ⟨q4, hq4, hd4⟩ := hy'.2.rowGet 2 (by omega) nodeC.w rfl hy
    rw [hq'] at hq4
    obtain rfl := Option.some.inj hq4
    have := hd4 0 _ rfl
    rw [add_zero] at this
    exact this
  · obtain ⟨q4, hq4, hd4⟩ := hy'.2.rowGet 2 (by omega) nodeC.w rfl hy
    rw [hq'] at hq4
    obtain rfl := Option.some.inj hq4
    exact hd4 1 _ rfl
  · obtain ⟨q4, hq4, hd4⟩ := hy'.2.rowGet 2 (by omega) nodeC.w rfl hy
    rw [hq'] at hq4
    obtain rfl := Option.some.inj hq4
    exact hd4 2 _ rfl
  intro w6
  have hb6 : Below w5.drew.heap.size w5.drew w6 := below_alloc _ _
  have hS7 := hS6.keep hb6
  refine ⟨⟨hS7.cell0 1 rfl rfl, hS7⟩, fun j hj => wr_new _ _ _ (by simpa using hj), ?_⟩
  intro w7
  have e7 : w7 = w5.drew.alloc (.cells #[.int .i64 (tmAt (terms N) (arg0 (tmAt (terms N) i))).kind, .int .i64 (tmAt (terms N) (arg0 (tmAt (terms N) i))).n, .slice sy.a sy.len sy.cap] 43) := box_set3
  clear_value w7
  obtain ⟨hS8, hb8⟩ := hS6.box [.int .i64 (tmAt (terms N) (arg0 (tmAt (terms N) i))).kind, .int .i64 (tmAt (terms N) (arg0 (tmAt (terms N) i))).n, .slice sy.a sy.len sy.cap] 43
  rw [show (w5.drew.alloc (.cells [Value.int .i64 (tmAt (terms N) (arg0 (tmAt (terms N) i))).kind, .int .i64 (tmAt (terms N) (arg0 (tmAt (terms N) i))).n, .slice sy.a sy.len sy.cap].toArray 43)) = w7 from e7.symm] at hS8 hb8
  have hB8 := (hB5.trans ((Same.drew w5).below B)).trans hb8
  generalize newA w5.drew = tc at hS8 ⊢
  have arOf2 : Sep B w7 (arA p N :: R) := arOf hS8.drop
  refine ⟨_, hS8.cell0 0 rfl rfl, cond_n (fun hk2 => none' _ _ ?_ arOf2 hB8) fun hk2 => ?_⟩
  · unfold unboxT; rw [e1, if_neg (by rw [hk]; decide), if_pos hk2]
  have hk2 : (tmAt (terms N) (arg0 (tmAt (terms N) i))).kind = 5 := hk2
  obtain ⟨y1, y2, y3, y4, y5, y6⟩ := ok_at hok hin0
  have hly : 1 ≤ (tmAt (terms N) (arg0 (tmAt (terms N) i))).args.length := by rw [hk2] at y3; exact y3
  obtain ⟨hpos3, q5, hq5, hc5⟩ := arg_get (argsAt 5 rfl hS8 hy) hly
  refine ⟨_, _, _, hS8.cell 0 rfl 2 rfl, by omega, hpos3, q5, hq5, _, hc5, cond_n (fun ha => none' _ _ ?_ arOf2 hB8) fun ha => ?_⟩
  · unfold unboxT; rw [e1, if_neg (by rw [hk]; decide), if_neg (by rw [hk2]; decide), if_pos ha]
  have ha : arg0 (tmAt (terms N) (arg0 (tmAt (terms N) i))) = k := ha
  have hcap := hcaps _ (List.mem_of_getElem? hx)
  have hI8 := argsAt 5 rfl hS8 hx
  have hlen := hI8.len
  unfold term_Arena_Unbox.c1
  refine ⟨_, _, _, hS8.cell 1 rfl 2 rfl, by omega, by (try dsimp only at hlen ⊢); omega, by (try dsimp only at hcap ⊢); omega, by omega, ?_⟩
  have hml := most_le (tmAt (terms N) i).kind
  refine (clone_spec (drop_ints hI8 hcap 2 hl2) (by rw [List.length_drop]; show (tmAt (terms N) i).args.length - 2 ≤ _; omega)).mono ?_
  rintro _ w9 ⟨s', rfl, ho, hb9⟩
  have er : unboxT (terms N) i k = ((tmAt (terms N) i).args.drop 2, 0) := by unfold unboxT; rw [e1, if_neg (by rw [hk]; decide), if_neg (by rw [hk2]; decide), if_neg (fun h => h ha)]
  refine ⟨_, _, _, rfl, s', by rw [er], by rw [er]; exact Sep.row arOf2 ho hb9, hB8.next hb9 h.le⟩

end Go.Proofs.YtpihglmgkfecbaaDoor
