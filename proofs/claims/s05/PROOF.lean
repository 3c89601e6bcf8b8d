import PyProof.Rows.All
import Wide.All
import OpenK.AllK
import Wide.FinOn
import Open.SpecLaws
import KE.OsGo
import HandS.ForSpec
import HandS.Comp
import HandS.Iter
import HandS.Wide
import PySem.Challenge.RW_unparted_s05_expo
set_option Elab.async false
set_option maxRecDepth 100000
set_option maxHeartbeats 2000000
namespace My
open PySem PySem.Spec PyProof.Rows L2
open PySem.W (Codec)
/-- a def that stands under its own name in the module and keeps its promise -/
structure Cl (P : Program) (w : World) (K : PySem.W.Frag) (mg : Str → Option Value) (base : Heap) (k : Nat) (x : Str) (ps : List Str) (sp : Sp) : Prop where
  ex : ∃ (f : Addr) (fd : FuncData), FnOk P w K mg base CX0 k f fd ps sp ∧ mg x = some (.ref f) ∧ PySem.W.keepIn K (.ref f) = true ∧ Binds K fd ps []
theorem if_true_of {c : Bool} {A B : Prop} (hc : c = true) (h : A) : if c = true then A else B := by
  rw [if_pos hc]
  exact h
theorem if_false_of {c : Bool} {A B : Prop} (hc : c = false) (h : B) : if c = true then A else B := by
  rw [hc, if_neg Bool.false_ne_true]
  exact h
theorem same_upd {H : Hp} {p : Addr} {o : HO} (h : H p = none) : Same H (upd H p o) := fun b u e => by
  rw [upd_ne (ne_of_none e h)]
  exact e
variable {P : Program} {w : World} {K : PySem.W.Frag} {mg : Str → Option Value} {base : Heap}
/-- the i-th statement of the program -/
def top (i : Nat) : Stmt := PySem.Challenge.pw_unparted_s05_expo.main.body.getD i (.Pass ⟨0, 0, 0, 0⟩)
abbrev sProd : Stmt := top 1
abbrev sExpNum : Stmt := top 3
abbrev sExpon : Stmt := top 4
abbrev sExpo : Stmt := top 8
/-! product_of -/
def prodN (a : Int) : Nat → Int
  | 0 => 1
  | n + 1 => prodN a n * (a + n)
def prodOf (a b : Int) : Int := prodN a (b + 1 - a).toNat
def spProd : Sp := fun vs H Q _ => ∃ a b : Int, vs = [.int a, .int b] ∧ (0 ≤ a ∧ a ≤ 100 ∧ 0 ≤ b ∧ b ≤ 100) ∧ Q (.int (prodOf a b)) H
theorem scProd : FnScope ["least", "most", "found", "number"] ["least", "most"] (defScope sProd) := ⟨rfl, rfl, rfl, by decide +kernel, rfl, by decide +kernel, by decide +kernel⟩
theorem ok_prod {f : Addr} {fd : FuncData} (F : Fun K "product_of" "product_of" sProd f fd) (mr : mg "range" = none) : FnOk P w K mg base CX0 1 f fd ["least", "most"] spProd := by
  refine F.ok scProd (fun vs H Q E h => ?_) (fun cdv A outer s H vs Q E hr h => ?_)
  · obtain ⟨a, b, rfl, _⟩ := h
    rfl
  · obtain ⟨a, b, rfl, ⟨h1, h2, h3, h4⟩, k⟩ := h
    refine ⟨_, pss_cons (ps_set (i := 2) scProd.nd rfl (.inl rfl) pe_int)
      (pss_cons (ps_for PassesOwn.never rfl (pi_range2 rfl mr (pa_cons (pv 0) (pa_cons (pe_op op_add (pv 1) pe_int) pa_nil))) (pg_name (i := 3) scProd.nd rfl (.inl rfl))
        (pss_one (ps_set (i := 2) scProd.nd rfl (.inl rfl) (pe_op op_mul (pv 2) (pv 3)))))
      (pss_one (ps_ret (pv 2)))), ?_⟩
    refine ⟨_, rfl, _, rfl, _, _, rfl, rfl, a, b + 1, rfl, ⟨by omega, by omega, by omega, by omega⟩, for_range (lo := a) (n := (b + 1 - a).toNat) (fun i σ H' => H' = H ∧ ∃ v, σ = [some (.int a), some (.int b), some (.int (prodN a i)), v]) ⟨rfl, none, rfl⟩ ?_ ?_⟩
    · rintro i σ _ hi ⟨rfl, v, rfl⟩
      refine ⟨_, rfl, _, rfl, _, _, rfl, rfl, .inr ⟨by omega, by omega⟩, ?_⟩
      exact ⟨rfl, _, rfl⟩
    · rintro σ _ ⟨rfl, v, rfl⟩
      exact ⟨_, rfl, k⟩
/-! exponential_number -/
def spExpNum : Sp := fun vs H Q _ => ∃ n k : Int, vs = [.int n, .int k] ∧ (0 ≤ n ∧ n ≤ 50 ∧ 0 ≤ k ∧ k ≤ 50) ∧ Q (.int (prodOf (k + 1) n)) H
theorem scExpNum : FnScope ["n", "k"] ["n", "k"] (defScope sExpNum) := ⟨rfl, rfl, rfl, by decide +kernel, rfl, by decide +kernel, by decide +kernel⟩
theorem ok_expnum {f : Addr} {fd : FuncData} (F : Fun K "exponential_number" "exponential_number" sExpNum f fd) (C1 : Cl P w K mg base 1 "product_of" ["least", "most"] spProd) : FnOk P w K mg base CX0 2 f fd ["n", "k"] spExpNum := by
  obtain ⟨f1, d1, G1, m1, k1, b1⟩ := C1
  refine F.ok scExpNum (fun vs H Q E h => ?_) (fun cdv A outer s H vs Q E hr h => ?_)
  · obtain ⟨a, b, rfl, _⟩ := h
    rfl
  · obtain ⟨n, k, rfl, ⟨h1, h2, h3, h4⟩, q⟩ := h
    refine ⟨_, pss_one (ps_ret (pe_call G1 hr rfl m1 k1 b1 .nil pass0 (pa_cons (pe_op op_add (pv 1) pe_int) (pa_cons (pv 0) pa_nil)))), ?_⟩
    exact ⟨_, rfl, _, _, rfl, rfl, _, rfl, k + 1, n, rfl, ⟨by omega, by omega, by omega, by omega⟩, q⟩
/-! exponential -/
def expoL (n m : Nat) : List Int := (List.range m).map fun (k : Nat) => prodOf ((k : Int) + 1) n
theorem expoL_succ (n m : Nat) : expoL n (m + 1) = expoL n m ++ [prodOf ((m : Int) + 1) n] := by
  unfold expoL
  rw [List.range_succ, List.map_append]
  rfl
theorem expoL_len (n m : Nat) : (expoL n m).length = m := by
  unfold expoL
  rw [List.length_map, List.length_range]
def spExpon : Sp := fun vs H Q _ => ∃ n : Nat, vs = [.int n] ∧ n ≤ 20 ∧
  ∀ (H' : Hp) (p : Addr), Same H H' → H p = none → H' p = some (.lst ((expoL n (n + 1)).map V.int)) → Q (.ref p) H'
theorem scExpon : FnScope ["n", "k"] ["n"] (defScope sExpon) := ⟨rfl, rfl, rfl, by decide +kernel, rfl, by decide +kernel, by decide +kernel⟩
theorem ok_expon {f : Addr} {fd : FuncData} (F : Fun K "exponential" "exponential" sExpon f fd) (mr : mg "range" = none) (C1 : Cl P w K mg base 2 "exponential_number" ["n", "k"] spExpNum) : FnOk P w K mg base CX0 3 f fd ["n"] spExpon := by
  obtain ⟨f1, d1, G1, m1, k1, b1⟩ := C1
  refine F.ok scExpon (fun vs H Q E h => ?_) (fun cdv A outer s H vs Q E hr h => ?_)
  · obtain ⟨n, rfl, _⟩ := h
    rfl
  · obtain ⟨n, rfl, hn, q⟩ := h
    refine ⟨_, pss_one (ps_ret (pe_lc (own := [("k", 1)]) (g := gName 1) (tt := tYes) rfl scExpon.nd (pi_range1 rfl mr (pa_cons (pe_op op_add (pv 0) pe_int) pa_nil))
      (blkOk_by (N := ["n", "k"]) (sc := defScope sExpon) (by decide +kernel)) (fun _ _ _ _ _ => pg_name (i := 1) scExpon.nd rfl (Or.inl rfl)) (fun _ _ _ _ _ => pts_nil)
      (fun _ _ _ _ _ => pe_call G1 hr rfl m1 k1 b1 .nil pass0 (pa_cons (pv 0) (pa_cons (pv 1) pa_nil))))), ?_⟩
    refine ⟨_, rfl, _, _, rfl, rfl, (n : Int) + 1, rfl, by omega, by omega, fun D hD => ?_⟩
    have e1 : ((n : Int) + 1).toNat = n + 1 := by omega
    refine lc_range (lo := 0) (n := ((n : Int) + 1).toNat) (fun i H' => Same H H' ∧ H' D = some (.lst ((expoL n i).map V.int))) ⟨same_upd hD, upd_same⟩ ?_ ?_
    · rintro i H' hi ⟨s1, l1⟩
      refine ⟨rfl, ?_⟩
      unfold tYes
      dsimp only
      rw [if_pos rfl]
      refine ⟨_, rfl, _, rfl, (n : Int), 0 + (i : Int), rfl, ⟨by omega, by omega, by omega, by omega⟩, _, l1, ?_, ?_, ?_⟩
      · rw [List.length_map, expoL_len]
        exact small1000 (by omega)
      · intro b o e
        rw [upd_ne (ne_of_none e hD)]
        exact s1 b o e
      · rw [upd_same, expoL_succ, List.map_append]
        rw [show (0 : Int) + (i : Int) = i by omega]
        rfl
    · rintro H' ⟨s1, l1⟩
      rw [e1] at l1
      exact q H' D s1 hD l1
/-! expo -/
theorem fact_pos (n : Nat) : 0 < Sn90.fact n := by
  unfold Sn90.fact
  have : ∀ (l : List Nat) (a : Nat), 0 < a → (∀ x ∈ l, 0 < x) → 0 < l.foldl (fun x y => x * y) a := by
    intro l
    induction l with
    | nil => exact fun a h _ => h
    | cons x r ih =>
      intro a h hx
      rw [List.foldl_cons]
      exact ih _ (Nat.mul_pos h (hx x List.mem_cons_self)) fun y hy => hx y (List.mem_cons_of_mem _ hy)
  refine this _ 1 (by decide) fun x hx => ?_
  obtain ⟨i, _, rfl⟩ := List.mem_map.mp hx
  omega
theorem fact_succ (n : Nat) : Sn90.fact (n + 1) = Sn90.fact n * (n + 1) := by
  unfold Sn90.fact
  rw [List.range_succ, List.map_append, List.foldl_append]
  rfl
theorem prodN_fact (k : Nat) : ∀ m : Nat, (Sn90.fact k : Int) * prodN ((k : Int) + 1) m = (Sn90.fact (k + m) : Nat)
  | 0 => by
    show (Sn90.fact k : Int) * 1 = _
    rw [Int.mul_one]
    rfl
  | m + 1 => by
    have ih := prodN_fact k m
    show (Sn90.fact k : Int) * (prodN ((k : Int) + 1) m * ((k : Int) + 1 + m)) = _
    rw [← Int.mul_assoc, ih]
    rw [show k + (m + 1) = (k + m) + 1 by omega, fact_succ, Int.natCast_mul]
    rw [show (k : Int) + 1 + m = ((k + m + 1 : Nat) : Int) by omega]
theorem prodOf_fact {n k : Nat} (h : k ≤ n) : prodOf ((k : Int) + 1) n = ((Sn90.fact n / Sn90.fact k : Nat) : Int) := by
  have e := prodN_fact k (n - k)
  have e1 : ((n : Int) + 1 - ((k : Int) + 1)).toNat = n - k := by omega
  have e2 : k + (n - k) = n := by omega
  unfold prodOf
  rw [e1]
  rw [e2] at e
  have hp : (0 : Int) < (Sn90.fact k : Nat) := Int.natCast_pos.mpr (fact_pos k)
  rw [Int.natCast_ediv, ← e, Int.mul_ediv_cancel_left _ (by omega)]
theorem expoL_spec (n : Nat) : expoL n (n + 1) = Sn90.expo n := by
  unfold expoL Sn90.expo
  refine List.map_congr_left fun k hk => ?_
  have := List.mem_range.mp hk
  exact prodOf_fact (by omega)
theorem expo_bad {n : Int} (h : n < 0 ∨ 20 < n) : PySn90.expo n = [-2] := by
  have e : Sn90.between n 0 20 = false := by
    unfold Sn90.between
    rcases h with h | h
    · rw [decide_eq_false (by omega)]
      rfl
    · rw [decide_eq_false (p := n ≤ 20) (by omega), Bool.and_false]
  show (match Sn90Neutral.answered (.expo n) with | some a => a.v :: a.l | none => []) = [-2]
  show (if Sn90.between n 0 20 = false then Sn90.ok (-2) else ⟨0, Sn90.expo n.toNat⟩ : Sn90.Ans).v :: (if Sn90.between n 0 20 = false then Sn90.ok (-2) else ⟨0, Sn90.expo n.toNat⟩ : Sn90.Ans).l = [-2]
  rw [if_pos e]
  rfl
theorem expo_good {n : Int} (h0 : 0 ≤ n) (h1 : n ≤ 20) : PySn90.expo n = 0 :: Sn90.expo n.toNat := by
  have e : ¬ Sn90.between n 0 20 = false := by
    unfold Sn90.between
    rw [decide_eq_true h0, decide_eq_true h1]
    decide
  show (if Sn90.between n 0 20 = false then Sn90.ok (-2) else ⟨0, Sn90.expo n.toNat⟩ : Sn90.Ans).v :: (if Sn90.between n 0 20 = false then Sn90.ok (-2) else ⟨0, Sn90.expo n.toNat⟩ : Sn90.Ans).l = _
  rw [if_neg e]
def spExpo : Sp := fun vs H Q _ => ∃ n : Int, vs = [.int n] ∧
  ∀ (H' : Hp) (p : Addr), H' p = some (.lst ((PySn90.expo n).map V.int)) → Q (.ref p) H'
theorem scExpo : FnScope ["n"] ["n"] (defScope sExpo) := ⟨rfl, rfl, rfl, by decide +kernel, rfl, by decide +kernel, by decide +kernel⟩
theorem ok_expo {f : Addr} {fd : FuncData} (F : Fun K "expo" "expo" sExpo f fd) {t1 t2 : Tok} (g1 : mg "MOST_EXPO" = some (.int 20 t1)) (g2 : mg "NO_DEGREE" = some (.int (-2) t2)) (C1 : Cl P w K mg base 3 "exponential" ["n"] spExpon) : FnOk P w K mg base CX0 4 f fd ["n"] spExpo := by
  obtain ⟨f1, d1, G1, m1, k1, b1⟩ := C1
  refine F.ok scExpo (fun vs H Q E h => ?_) (fun cdv A outer s H vs Q E hr h => ?_)
  · obtain ⟨n, rfl, _⟩ := h
    rfl
  · obtain ⟨n, rfl, q⟩ := h
    refine ⟨_, pss_cons (ps_if (PW.pt (pw_or (pt_cmpR op_lt (pv 0) pe_int (nomark _)) (pw_or1 (pt_cmpR op_gt (pv 0) (pe_glob (v := .int 20) rfl g1 ⟨_, rfl⟩) (nomark _)))))
        (pss_one (ps_ret (pe_lst (pa_cons (pe_glob (v := .int (-2)) rfl g2 ⟨_, rfl⟩) pa_nil)))) pss_nil)
      (pss_one (ps_ret (pe_op op_cat (pe_lst (pa_cons pe_int pa_nil)) (pe_call G1 hr rfl m1 k1 b1 .nil pass0 (pa_cons (pv 0) pa_nil))))), ?_⟩
    have bad : n < 0 ∨ 20 < n → ∀ p : Addr, H p = none → Q (.ref p) (upd H p (.lst [.int (-2)])) := fun hb p hp => by
      refine q _ p ?_
      rw [upd_same, expo_bad hb]
      rfl
    refine ⟨_, rfl, _, _, rfl, rfl, _, rfl, ?_⟩
    by_cases c1 : n < 0
    · refine if_true_of (decide_eq_true c1) ?_
      refine iteT ?_
      exact ⟨by show 1 ≤ sizeLine; decide, bad (.inl c1)⟩
    · refine if_false_of (decide_eq_false c1) ?_
      refine ⟨_, rfl, _, _, rfl, rfl, _, rfl, ?_⟩
      by_cases c2 : 20 < n
      · refine if_true_of (decide_eq_true c2) ?_
        exact ⟨by show 1 ≤ sizeLine; decide, bad (.inr c2)⟩
      · refine if_false_of (decide_eq_false c2) ?_
        refine ⟨by show 1 ≤ sizeLine; decide, fun p hp => ?_⟩
        obtain ⟨m, rfl⟩ : ∃ m : Nat, n = m := ⟨n.toNat, by omega⟩
        refine ⟨_, rfl, m, rfl, by omega, fun H1 r s1 fr hr1 => ?_⟩
        refine ⟨p, r, _, _, rfl, rfl, s1 _ _ upd_same, hr1, ?_, fun z hz => ?_⟩
        · rw [List.length_map, expoL_len]
          exact Nat.le_of_lt (small1000 (by show 1 + (m + 1) ≤ 1000; omega))
        · refine q _ z ?_
          rw [upd_same, expo_good (by omega) (by omega), expoL_spec]
          rfl
theorem all_mk {P : Program} {w : World} {K : PySem.W.Frag} {h : Heap} {mg : Str → Option Value} {fa f1 f2 f3 f4 : Addr} (X : K.In h) (G : h.Ns mainGlobals mg) (hfa : mg "expo" = some (.ref fa))
    {od1 an1 od2 an2 od3 an3 od4 an4 : Option Addr} {sl1 sl2 sl3 sl4 : Array (Option Value)} {oc1 kV1 dc1 pm1 cd1 ct1 oc2 kV2 dc2 pm2 cd2 ct2 oc3 kV3 dc3 pm3 cd3 ct3 oc4 kV4 dc4 pm4 cd4 ct4 : Value}
    {t_MOST_EXPO t_NO_DEGREE : Tok}
    (a1 : PySem.W.nsIn K mainGlobals "product_of" = some (some (.ref f1)))
    (l1 : K.lookup f1 = some ⟨oc1, od1, .func (PySem.W.fnOf "product_of" "product_of" (defArgs sProd) (defBody sProd) (defScope sProd) .none kV1 dc1 pm1 an1 cd1 ct1), sl1⟩)
    (c1 : PySem.W.codeIn K cd1 "product_of" = true)
    (k1 : PySem.W.keepIn K (.ref f1) = true)
    (a2 : PySem.W.nsIn K mainGlobals "exponential_number" = some (some (.ref f2)))
    (l2 : K.lookup f2 = some ⟨oc2, od2, .func (PySem.W.fnOf "exponential_number" "exponential_number" (defArgs sExpNum) (defBody sExpNum) (defScope sExpNum) .none kV2 dc2 pm2 an2 cd2 ct2), sl2⟩)
    (c2 : PySem.W.codeIn K cd2 "exponential_number" = true)
    (k2 : PySem.W.keepIn K (.ref f2) = true)
    (a3 : PySem.W.nsIn K mainGlobals "exponential" = some (some (.ref f3)))
    (l3 : K.lookup f3 = some ⟨oc3, od3, .func (PySem.W.fnOf "exponential" "exponential" (defArgs sExpon) (defBody sExpon) (defScope sExpon) .none kV3 dc3 pm3 an3 cd3 ct3), sl3⟩)
    (c3 : PySem.W.codeIn K cd3 "exponential" = true)
    (k3 : PySem.W.keepIn K (.ref f3) = true)
    (a4 : PySem.W.nsIn K mainGlobals "expo" = some (some (.ref f4)))
    (l4 : K.lookup f4 = some ⟨oc4, od4, .func (PySem.W.fnOf "expo" "expo" (defArgs sExpo) (defBody sExpo) (defScope sExpo) .none kV4 dc4 pm4 an4 cd4 ct4), sl4⟩)
    (c4 : PySem.W.codeIn K cd4 "expo" = true)
    (k4 : PySem.W.keepIn K (.ref f4) = true)
    (z_range : PySem.W.nsIn K mainGlobals "range" = some none)
    (g_MOST_EXPO : PySem.W.nsIn K mainGlobals "MOST_EXPO" = some (some (.int 20 t_MOST_EXPO)))
    (g_NO_DEGREE : PySem.W.nsIn K mainGlobals "NO_DEGREE" = some (some (.int (-2) t_NO_DEGREE)))
    : ∃ fd : FuncData, (∀ (s : Shared) (us : List Value), us.length = (["n"] : List Str).length → BindsTo s fd ⟨us, []⟩ ((["n"] : List Str).zip us)) ∧ ∀ base : Heap, K.In base → base.Ns mainGlobals mg → FnOk P w K mg base CX0 4 fa fd ["n"] (spExpo) := by
  have e := hfa.symm.trans (PySem.W.mg_of X G a4)
  cases e
  have F1 := fun_mk (st := sProd) l1 c1 k1
  have b1 := F1.binds (ps := ["least", "most"]) fun _ _ _ _ _ _ us hl => match us, hl with | [_, _], _ => rfl
  have F2 := fun_mk (st := sExpNum) l2 c2 k2
  have b2 := F2.binds (ps := ["n", "k"]) fun _ _ _ _ _ _ us hl => match us, hl with | [_, _], _ => rfl
  have F3 := fun_mk (st := sExpon) l3 c3 k3
  have b3 := F3.binds (ps := ["n"]) fun _ _ _ _ _ _ us hl => match us, hl with | [_], _ => rfl
  have F4 := fun_mk (st := sExpo) l4 c4 k4
  refine ⟨PySem.W.fnOf "expo" "expo" (defArgs sExpo) (defBody sExpo) (defScope sExpo) .none kV4 dc4 pm4 an4 cd4 ct4, fun s us hu => match us, hu with | [_], _ => .of_eq rfl, fun base _ _ => ?_⟩
  have D1 : Cl P w K mg base 1 "product_of" ["least", "most"] (spProd) := ⟨f1, _, ok_prod F1 (PySem.W.mg_none_of X G z_range), PySem.W.mg_of X G a1, k1, b1⟩
  have D2 : Cl P w K mg base 2 "exponential_number" ["n", "k"] (spExpNum) := ⟨f2, _, ok_expnum F2 D1, PySem.W.mg_of X G a2, k2, b2⟩
  have D3 : Cl P w K mg base 3 "exponential" ["n"] (spExpon) := ⟨f3, _, ok_expon F3 (PySem.W.mg_none_of X G z_range) D2, PySem.W.mg_of X G a3, k3, b3⟩
  exact ok_expo F4 (PySem.W.mg_of X G g_MOST_EXPO) (PySem.W.mg_of X G g_NO_DEGREE) D3
end My
open PySem PySem.W PyProof.Rows
set_option maxRecDepth 100000 in
set_option maxHeartbeats 8000000 in
theorem PySem.Challenge.cw_unparted_s05_expo_holds : PySem.Challenge.rw_unparted_s05_expo.Holds := by
  w_on; k_headS; (case hw => exact ⟨[.int 0], by decide +kernel, by decide +kernel⟩)
  k_fillS
  refine L2.walk_specK (r := PySem.Challenge.rw_unparted_s05_expo) (k := 4) (CX := L2.CX0) (ps := ["n"]) (sp := fun K => My.spExpo) (by decide +kernel) rfl rfl ⟨rfl, by decide, by decide⟩ (fun w h Y => PySem.W.kIn_of Y) ?F ?S (fun _ _ _ _ z => z)
  case F =>
    intro w mg fa h Y KX G hmg
    refine' My.all_mk KX G hmg ?a1 ?l1 ?c1 ?k1 ?a2 ?l2 ?c2 ?k2 ?a3 ?l3 ?c3 ?k3 ?a4 ?l4 ?c4 ?k4 ?z_range ?g_MOST_EXPO ?g_NO_DEGREE
    (case a1 => k_is)
    (case l1 => k_is)
    (case c1 => k_is)
    (case k1 => k_is)
    (case a2 => k_is)
    (case l2 => k_is)
    (case c2 => k_is)
    (case k2 => k_is)
    (case a3 => k_is)
    (case l3 => k_is)
    (case c3 => k_is)
    (case k3 => k_is)
    (case a4 => k_is)
    (case l4 => k_is)
    (case c4 => k_is)
    (case k4 => k_is)
    (case z_range => k_is)
    (case g_MOST_EXPO => k_is)
    (case g_NO_DEGREE => k_is)
  case S =>
    intro K H xs a hO hwi hask hx
    cases hx with
    | cons h1 h2 =>
      cases h2
      cases h1 with
      | int _ =>
        exact ⟨a.1, rfl, fun H' p hp => .lst (L2.SqL.of hp) (L2.dw_ints _)⟩
#print axioms PySem.Challenge.cw_unparted_s05_expo_holds
