import PyProof.Rows.All
import Wide.All
import OpenK.AllK
import Wide.FinOn
import Open.SpecLaws
import KE.OsGo
import HandS.ForSpec
import HandS.Comp
import HandS.Iter
import HandS.Wide
import PySem.Challenge.RW_unparted_s06_laguerre
set_option Elab.async false
set_option maxRecDepth 100000
set_option maxHeartbeats 2000000
namespace My
open PySem PySem.Spec PyProof.Rows L2
open PySem.W (Codec)
/-- a def that stands under its own name in the module and keeps its promise -/
structure Cl (P : Program) (w : World) (K : PySem.W.Frag) (mg : Str → Option Value) (base : Heap) (k : Nat) (x : Str) (ps : List Str) (sp : Sp) : Prop where
  ex : ∃ (f : Addr) (fd : FuncData), FnOk P w K mg base CX0 k f fd ps sp ∧ mg x = some (.ref f) ∧ PySem.W.keepIn K (.ref f) = true ∧ Binds K fd ps []
theorem if_true_of {c : Bool} {A B : Prop} (hc : c = true) (h : A) : if c = true then A else B := by
  rw [if_pos hc]
  exact h
theorem if_false_of {c : Bool} {A B : Prop} (hc : c = false) (h : B) : if c = true then A else B := by
  rw [hc, if_neg Bool.false_ne_true]
  exact h
theorem same_upd {H : Hp} {p : Addr} {o : HO} (h : H p = none) : Same H (upd H p o) := fun b u e => by
  rw [upd_ne (ne_of_none e h)]
  exact e
variable {P : Program} {w : World} {K : PySem.W.Frag} {mg : Str → Option Value} {base : Heap}
/-- the i-th statement of the program -/
def top (i : Nat) : Stmt := PySem.Challenge.pw_unparted_s06_laguerre.main.body.getD i (.Pass ⟨0, 0, 0, 0⟩)
abbrev sProd : Stmt := top 1
abbrev sChoices : Stmt := top 2
abbrev sExpNum : Stmt := top 4
abbrev sSign : Stmt := top 5
abbrev sLagNum : Stmt := top 6
abbrev sSecond : Stmt := top 7
abbrev sLaguerre : Stmt := top 11
/-! product_of -/
def prodN (a : Int) : Nat → Int
  | 0 => 1
  | n + 1 => prodN a n * (a + n)
def prodOf (a b : Int) : Int := prodN a (b + 1 - a).toNat
def spProd : Sp := fun vs H Q _ => ∃ a b : Int, vs = [.int a, .int b] ∧ (0 ≤ a ∧ a ≤ 100 ∧ 0 ≤ b ∧ b ≤ 100) ∧ Q (.int (prodOf a b)) H
theorem scProd : FnScope ["least", "most", "found", "number"] ["least", "most"] (defScope sProd) := ⟨rfl, rfl, rfl, by decide +kernel, rfl, by decide +kernel, by decide +kernel⟩
theorem ok_prod {f : Addr} {fd : FuncData} (F : Fun K "product_of" "product_of" sProd f fd) (mr : mg "range" = none) : FnOk P w K mg base CX0 1 f fd ["least", "most"] spProd := by
  refine F.ok scProd (fun vs H Q E h => ?_) (fun cdv A outer s H vs Q E hr h => ?_)
  · obtain ⟨a, b, rfl, _⟩ := h
    rfl
  · obtain ⟨a, b, rfl, ⟨h1, h2, h3, h4⟩, k⟩ := h
    refine ⟨_, pss_cons (ps_set (i := 2) scProd.nd rfl (.inl rfl) pe_int)
      (pss_cons (ps_for PassesOwn.never rfl (pi_range2 rfl mr (pa_cons (pv 0) (pa_cons (pe_op op_add (pv 1) pe_int) pa_nil))) (pg_name (i := 3) scProd.nd rfl (.inl rfl))
        (pss_one (ps_set (i := 2) scProd.nd rfl (.inl rfl) (pe_op op_mul (pv 2) (pv 3)))))
      (pss_one (ps_ret (pv 2)))), ?_⟩
    refine ⟨_, rfl, _, rfl, _, _, rfl, rfl, a, b + 1, rfl, ⟨by omega, by omega, by omega, by omega⟩, for_range (lo := a) (n := (b + 1 - a).toNat) (fun i σ H' => H' = H ∧ ∃ v, σ = [some (.int a), some (.int b), some (.int (prodN a i)), v]) ⟨rfl, none, rfl⟩ ?_ ?_⟩
    · rintro i σ _ hi ⟨rfl, v, rfl⟩
      refine ⟨_, rfl, _, rfl, _, _, rfl, rfl, .inr ⟨by omega, by omega⟩, ?_⟩
      exact ⟨rfl, _, rfl⟩
    · rintro σ _ ⟨rfl, v, rfl⟩
      exact ⟨_, rfl, k⟩
/-! exponential_number -/
def spExpNum : Sp := fun vs H Q _ => ∃ n k : Int, vs = [.int n, .int k] ∧ (0 ≤ n ∧ n ≤ 50 ∧ 0 ≤ k ∧ k ≤ 50) ∧ Q (.int (prodOf (k + 1) n)) H
theorem scExpNum : FnScope ["n", "k"] ["n", "k"] (defScope sExpNum) := ⟨rfl, rfl, rfl, by decide +kernel, rfl, by decide +kernel, by decide +kernel⟩
theorem ok_expnum {f : Addr} {fd : FuncData} (F : Fun K "exponential_number" "exponential_number" sExpNum f fd) (C1 : Cl P w K mg base 1 "product_of" ["least", "most"] spProd) : FnOk P w K mg base CX0 2 f fd ["n", "k"] spExpNum := by
  obtain ⟨f1, d1, G1, m1, k1, b1⟩ := C1
  refine F.ok scExpNum (fun vs H Q E h => ?_) (fun cdv A outer s H vs Q E hr h => ?_)
  · obtain ⟨a, b, rfl, _⟩ := h
    rfl
  · obtain ⟨n, k, rfl, ⟨h1, h2, h3, h4⟩, q⟩ := h
    refine ⟨_, pss_one (ps_ret (pe_call G1 hr rfl m1 k1 b1 .nil pass0 (pa_cons (pe_op op_add (pv 1) pe_int) (pa_cons (pv 0) pa_nil)))), ?_⟩
    exact ⟨_, rfl, _, _, rfl, rfl, _, rfl, k + 1, n, rfl, ⟨by omega, by omega, by omega, by omega⟩, q⟩
/-! factorials of the specification -/
theorem fact_pos (n : Nat) : 0 < Sn90.fact n := by
  unfold Sn90.fact
  have : ∀ (l : List Nat) (a : Nat), 0 < a → (∀ x ∈ l, 0 < x) → 0 < l.foldl (fun x y => x * y) a := by
    intro l
    induction l with
    | nil => exact fun a h _ => h
    | cons x r ih =>
      intro a h hx
      rw [List.foldl_cons]
      exact ih _ (Nat.mul_pos h (hx x List.mem_cons_self)) fun y hy => hx y (List.mem_cons_of_mem _ hy)
  refine this _ 1 (by decide) fun x hx => ?_
  obtain ⟨i, _, rfl⟩ := List.mem_map.mp hx
  omega
theorem fact_succ (n : Nat) : Sn90.fact (n + 1) = Sn90.fact n * (n + 1) := by
  unfold Sn90.fact
  rw [List.range_succ, List.map_append, List.foldl_append]
  rfl
theorem prodN_fact (k : Nat) : ∀ m : Nat, (Sn90.fact k : Int) * prodN ((k : Int) + 1) m = (Sn90.fact (k + m) : Nat)
  | 0 => by
    show (Sn90.fact k : Int) * 1 = _
    rw [Int.mul_one]
    rfl
  | m + 1 => by
    have ih := prodN_fact k m
    show (Sn90.fact k : Int) * (prodN ((k : Int) + 1) m * ((k : Int) + 1 + m)) = _
    rw [← Int.mul_assoc, ih]
    rw [show k + (m + 1) = (k + m) + 1 by omega, fact_succ, Int.natCast_mul]
    rw [show (k : Int) + 1 + m = ((k + m + 1 : Nat) : Int) by omega]
theorem prodOf_fact {n k : Nat} (h : k ≤ n) : prodOf ((k : Int) + 1) n = ((Sn90.fact n / Sn90.fact k : Nat) : Int) := by
  have e := prodN_fact k (n - k)
  have e1 : ((n : Int) + 1 - ((k : Int) + 1)).toNat = n - k := by omega
  have e2 : k + (n - k) = n := by omega
  unfold prodOf
  rw [e1]
  rw [e2] at e
  have hp : (0 : Int) < (Sn90.fact k : Nat) := Int.natCast_pos.mpr (fact_pos k)
  rw [Int.natCast_ediv, ← e, Int.mul_ediv_cancel_left _ (by omega)]
/-! choices, sign_at, laguerre_number, second_family, laguerre -/
theorem one_fact (k : Nat) : prodOf 1 k = (Sn90.fact k : Nat) := by
  have e := prodOf_fact (n := k) (k := 0) (Nat.zero_le k)
  rw [show ((0 : Nat) : Int) + 1 = 1 by rfl] at e
  rw [e, show Sn90.fact 0 = 1 by rfl, Nat.div_one]
theorem fact_small : ∀ k : Nat, k < 19 → Sn90.fact k < 2 ^ 64 := by decide +kernel
theorem choose_is : ∀ n : Nat, n < 19 → ∀ k : Nat, k < n + 1 → Sn90.fact n / Sn90.fact (n - k) / Sn90.fact k = Sn90.choose n k := by decide +kernel
theorem choose_small : ∀ n : Nat, n < 19 → ∀ k : Nat, k < n + 1 → Sn90.choose n k < 2 ^ 20 := by decide +kernel
theorem choices_is {n k : Nat} (hn : n ≤ 18) (hk : k ≤ n) : prodOf ((n : Int) - k + 1) n / prodOf 1 k = (Sn90.choose n k : Nat) := by
  have e1 := prodOf_fact (n := n) (k := n - k) (by omega)
  rw [show ((n - k : Nat) : Int) = (n : Int) - k by omega] at e1
  rw [e1, one_fact, ← Int.natCast_ediv, choose_is n (by omega) k (by omega)]
def lagNum (n k : Nat) : Int := (if k % 2 = 0 then (1 : Int) else -1) * ((Sn90.choose n k * (Sn90.fact n / Sn90.fact k) : Nat) : Int)
theorem lag_is {n k : Nat} (hk : k ≤ n) : (1 - 2 * ((k : Int) % 2)) * prodOf ((k : Int) + 1) n * (Sn90.choose n k : Nat) = lagNum n k := by
  rw [prodOf_fact hk]
  have e : 1 - 2 * ((k : Int) % 2) = (if k % 2 = 0 then (1 : Int) else -1) := by
    split <;> omega
  unfold lagNum
  rw [e, Int.mul_assoc, ← Int.natCast_mul, Nat.mul_comm (Sn90.fact n / Sn90.fact k)]
def spChoices : Sp := fun vs H Q _ => ∃ n k : Nat, vs = [.int n, .int k] ∧ n ≤ 18 ∧ k ≤ n ∧ Q (.int (Sn90.choose n k : Nat)) H
theorem scChoices : FnScope ["n", "k"] ["n", "k"] (defScope sChoices) := ⟨rfl, rfl, rfl, by decide +kernel, rfl, by decide +kernel, by decide +kernel⟩
theorem ok_choices {f : Addr} {fd : FuncData} (F : Fun K "choices" "choices" sChoices f fd) (C1 : Cl P w K mg base 1 "product_of" ["least", "most"] spProd) : FnOk P w K mg base CX0 2 f fd ["n", "k"] spChoices := by
  obtain ⟨f1, d1, G1, m1, k1, b1⟩ := C1
  refine F.ok scChoices (fun vs H Q E h => ?_) (fun cdv A outer s H vs Q E hr h => ?_)
  · obtain ⟨n, k, rfl, _⟩ := h
    rfl
  · obtain ⟨n, k, rfl, hn, hk, q⟩ := h
    refine ⟨_, pss_one (ps_ret (pe_op op_fdivW (pe_call G1 hr rfl m1 k1 b1 .nil pass0 (pa_cons (pe_op op_add (pe_op op_sub (pv 0) (pv 1)) pe_int) (pa_cons (pv 0) pa_nil)))
      (pe_call G1 hr rfl m1 k1 b1 .nil pass0 (pa_cons pe_int (pa_cons (pv 1) pa_nil))))), ?_⟩
    refine ⟨_, rfl, _, rfl, _, _, rfl, rfl, _, _, rfl, rfl, _, rfl, (n : Int) - k + 1, n, rfl, ⟨by omega, by omega, by omega, by omega⟩, ?_⟩
    refine ⟨_, rfl, 1, k, rfl, ⟨by omega, by omega, by omega, by omega⟩, ?_⟩
    have hp := fact_pos k
    have hs := fact_small k (by omega)
    refine ⟨_, _, rfl, rfl, wide_div (b := 64) ?_ ?_ (by decide) (by decide), ?_⟩
    · rw [one_fact]
      omega
    · rw [one_fact, Int.natAbs_natCast]
      exact hs
    · rw [← choices_is hn hk] at q
      exact q
def spSign : Sp := fun vs H Q _ => ∃ k : Nat, vs = [.int k] ∧ Q (.int (1 - 2 * ((k : Int) % 2))) H
theorem scSign : FnScope ["k"] ["k"] (defScope sSign) := ⟨rfl, rfl, rfl, by decide +kernel, rfl, by decide +kernel, by decide +kernel⟩
theorem ok_sign {f : Addr} {fd : FuncData} (F : Fun K "sign_at" "sign_at" sSign f fd) : FnOk P w K mg base CX0 1 f fd ["k"] spSign := by
  refine F.ok scSign (fun vs H Q E h => ?_) (fun cdv A outer s H vs Q E hr h => ?_)
  · obtain ⟨k, rfl, _⟩ := h
    rfl
  · obtain ⟨k, rfl, q⟩ := h
    refine ⟨_, pss_one (ps_ret (pe_op op_sub pe_int (pe_op op_mul pe_int (pe_op op_mod (pv 0) pe_int)))), ?_⟩
    exact ⟨_, rfl, _, _, rfl, rfl, (by show (0 : Int) < 2; decide), _, _, rfl, rfl, .inl ⟨by decide, by decide⟩, _, _, rfl, rfl, q⟩
def spLagNum : Sp := fun vs H Q _ => ∃ n k : Nat, vs = [.int n, .int k] ∧ n ≤ 18 ∧ k ≤ n ∧ Q (.int (lagNum n k)) H
theorem scLagNum : FnScope ["n", "k"] ["n", "k"] (defScope sLagNum) := ⟨rfl, rfl, rfl, by decide +kernel, rfl, by decide +kernel, by decide +kernel⟩
theorem ok_lagnum {f : Addr} {fd : FuncData} (F : Fun K "laguerre_number" "laguerre_number" sLagNum f fd) (C1 : Cl P w K mg base 1 "sign_at" ["k"] spSign) (C2 : Cl P w K mg base 2 "exponential_number" ["n", "k"] spExpNum)
    (C3 : Cl P w K mg base 2 "choices" ["n", "k"] spChoices) : FnOk P w K mg base CX0 3 f fd ["n", "k"] spLagNum := by
  obtain ⟨f1, d1, G1, m1, k1, b1⟩ := C1
  obtain ⟨f2, d2, G2, m2, k2, b2⟩ := C2
  obtain ⟨f3, d3, G3, m3, k3, b3⟩ := C3
  refine F.ok scLagNum (fun vs H Q E h => ?_) (fun cdv A outer s H vs Q E hr h => ?_)
  · obtain ⟨n, k, rfl, _⟩ := h
    rfl
  · obtain ⟨n, k, rfl, hn, hk, q⟩ := h
    refine ⟨_, pss_one (ps_ret (pe_op op_mul (pe_op op_mul (pe_call G1 (hr.mono (by decide)) rfl m1 k1 b1 .nil pass0 (pa_cons (pv 1) pa_nil))
      (pe_call G2 hr rfl m2 k2 b2 .nil pass0 (pa_cons (pv 0) (pa_cons (pv 1) pa_nil)))) (pe_call G3 hr rfl m3 k3 b3 .nil pass0 (pa_cons (pv 0) (pa_cons (pv 1) pa_nil))))), ?_⟩
    have hc := choose_small n (by omega) k (by omega)
    refine ⟨_, rfl, k, rfl, _, rfl, _, rfl, n, k, rfl, ⟨by omega, by omega, by omega, by omega⟩, _, _, rfl, rfl, .inl ⟨by omega, by omega⟩, _, rfl, _, rfl, n, k, rfl, hn, hk, _, _, rfl, rfl, .inr ⟨by omega, by omega⟩, ?_⟩
    rw [← lag_is hk] at q
    exact q
def lagL (n m : Nat) : List Int := (List.range m).map fun (k : Nat) => lagNum n k
theorem lagL_succ (n m : Nat) : lagL n (m + 1) = lagL n m ++ [lagNum n m] := by
  unfold lagL
  rw [List.range_succ, List.map_append]
  rfl
theorem lagL_len (n m : Nat) : (lagL n m).length = m := by
  unfold lagL
  rw [List.length_map, List.length_range]
def spSecond : Sp := fun vs H Q _ => ∃ n : Nat, vs = [.int n] ∧ n ≤ 18 ∧
  ∀ (H' : Hp) (p : Addr), Same H H' → H p = none → H' p = some (.lst ((lagL n (n + 1)).map V.int)) → Q (.ref p) H'
theorem scSecond : FnScope ["n", "k"] ["n"] (defScope sSecond) := ⟨rfl, rfl, rfl, by decide +kernel, rfl, by decide +kernel, by decide +kernel⟩
theorem ok_second {f : Addr} {fd : FuncData} (F : Fun K "second_family" "second_family" sSecond f fd) (mr : mg "range" = none) (C1 : Cl P w K mg base 3 "laguerre_number" ["n", "k"] spLagNum) : FnOk P w K mg base CX0 4 f fd ["n"] spSecond := by
  obtain ⟨f1, d1, G1, m1, k1, b1⟩ := C1
  refine F.ok scSecond (fun vs H Q E h => ?_) (fun cdv A outer s H vs Q E hr h => ?_)
  · obtain ⟨n, rfl, _⟩ := h
    rfl
  · obtain ⟨n, rfl, hn, q⟩ := h
    refine ⟨_, pss_one (ps_ret (pe_lc (own := [("k", 1)]) (g := gName 1) (tt := tYes) rfl scSecond.nd (pi_range1 rfl mr (pa_cons (pe_op op_add (pv 0) pe_int) pa_nil))
      (blkOk_by (N := ["n", "k"]) (sc := defScope sSecond) (by decide +kernel)) (fun _ _ _ _ _ => pg_name (i := 1) scSecond.nd rfl (Or.inl rfl)) (fun _ _ _ _ _ => pts_nil)
      (fun _ _ _ _ _ => pe_call G1 hr rfl m1 k1 b1 .nil pass0 (pa_cons (pv 0) (pa_cons (pv 1) pa_nil))))), ?_⟩
    refine ⟨_, rfl, _, _, rfl, rfl, (n : Int) + 1, rfl, by omega, by omega, fun D hD => ?_⟩
    have e1 : ((n : Int) + 1).toNat = n + 1 := by omega
    refine lc_range (lo := 0) (n := ((n : Int) + 1).toNat) (fun i H' => Same H H' ∧ H' D = some (.lst ((lagL n i).map V.int))) ⟨same_upd hD, upd_same⟩ ?_ ?_
    · rintro i H' hi ⟨s1, l1⟩
      refine ⟨rfl, ?_⟩
      unfold tYes
      dsimp only
      rw [if_pos rfl]
      rw [show (0 : Int) + (i : Int) = i by omega]
      refine ⟨_, rfl, _, rfl, n, i, rfl, hn, by omega, _, l1, ?_, ?_, ?_⟩
      · rw [List.length_map, lagL_len]
        exact small1000 (by omega)
      · intro b o e
        rw [upd_ne (ne_of_none e hD)]
        exact s1 b o e
      · rw [upd_same, lagL_succ, List.map_append]
        rfl
    · rintro H' ⟨s1, l1⟩
      rw [e1] at l1
      exact q H' D s1 hD l1
theorem lag_bad {n : Int} (h : n < 0 ∨ 18 < n) : PySn90.laguerre n = [-2] := by
  have e : Sn90.between n 0 18 = false := by
    unfold Sn90.between
    rcases h with h | h
    · rw [decide_eq_false (by omega)]
      rfl
    · rw [decide_eq_false (p := n ≤ 18) (by omega), Bool.and_false]
  show (if Sn90.between n 0 18 = false then Sn90.ok (-2) else ⟨0, Sn90.laguerre n.toNat⟩ : Sn90.Ans).v :: (if Sn90.between n 0 18 = false then Sn90.ok (-2) else ⟨0, Sn90.laguerre n.toNat⟩ : Sn90.Ans).l = [-2]
  rw [if_pos e]
  rfl
theorem lag_good {n : Int} (h0 : 0 ≤ n) (h1 : n ≤ 18) : PySn90.laguerre n = 0 :: lagL n.toNat (n.toNat + 1) := by
  have e : ¬ Sn90.between n 0 18 = false := by
    unfold Sn90.between
    rw [decide_eq_true h0, decide_eq_true h1]
    decide
  show (if Sn90.between n 0 18 = false then Sn90.ok (-2) else ⟨0, Sn90.laguerre n.toNat⟩ : Sn90.Ans).v :: (if Sn90.between n 0 18 = false then Sn90.ok (-2) else ⟨0, Sn90.laguerre n.toNat⟩ : Sn90.Ans).l = _
  rw [if_neg e]
  rfl
def spLaguerre : Sp := fun vs H Q _ => ∃ n : Int, vs = [.int n] ∧
  ∀ (H' : Hp) (p : Addr), H' p = some (.lst ((PySn90.laguerre n).map V.int)) → Q (.ref p) H'
theorem scLaguerre : FnScope ["n"] ["n"] (defScope sLaguerre) := ⟨rfl, rfl, rfl, by decide +kernel, rfl, by decide +kernel, by decide +kernel⟩
theorem ok_laguerre {f : Addr} {fd : FuncData} (F : Fun K "laguerre" "laguerre" sLaguerre f fd) {t1 t2 : Tok} (g1 : mg "MOST_LAGUERRE" = some (.int 18 t1)) (g2 : mg "NO_DEGREE" = some (.int (-2) t2)) (C1 : Cl P w K mg base 4 "second_family" ["n"] spSecond) : FnOk P w K mg base CX0 5 f fd ["n"] spLaguerre := by
  obtain ⟨f1, d1, G1, m1, k1, b1⟩ := C1
  refine F.ok scLaguerre (fun vs H Q E h => ?_) (fun cdv A outer s H vs Q E hr h => ?_)
  · obtain ⟨n, rfl, _⟩ := h
    rfl
  · obtain ⟨n, rfl, q⟩ := h
    refine ⟨_, pss_cons (ps_if (PW.pt (pw_or (pt_cmpR op_lt (pv 0) pe_int (nomark _)) (pw_or1 (pt_cmpR op_gt (pv 0) (pe_glob (v := .int 18) rfl g1 ⟨_, rfl⟩) (nomark _)))))
        (pss_one (ps_ret (pe_lst (pa_cons (pe_glob (v := .int (-2)) rfl g2 ⟨_, rfl⟩) pa_nil)))) pss_nil)
      (pss_one (ps_ret (pe_op op_cat (pe_lst (pa_cons pe_int pa_nil)) (pe_call G1 hr rfl m1 k1 b1 .nil pass0 (pa_cons (pv 0) pa_nil))))), ?_⟩
    have bad : n < 0 ∨ 18 < n → ∀ p : Addr, H p = none → Q (.ref p) (upd H p (.lst [.int (-2)])) := fun hb p hp => by
      refine q _ p ?_
      rw [upd_same, lag_bad hb]
      rfl
    refine ⟨_, rfl, _, _, rfl, rfl, _, rfl, ?_⟩
    by_cases c1 : n < 0
    · refine if_true_of (decide_eq_true c1) ?_
      refine iteT ?_
      exact ⟨by show 1 ≤ sizeLine; decide, bad (.inl c1)⟩
    · refine if_false_of (decide_eq_false c1) ?_
      refine ⟨_, rfl, _, _, rfl, rfl, _, rfl, ?_⟩
      by_cases c2 : 18 < n
      · refine if_true_of (decide_eq_true c2) ?_
        exact ⟨by show 1 ≤ sizeLine; decide, bad (.inr c2)⟩
      · refine if_false_of (decide_eq_false c2) ?_
        refine ⟨by show 1 ≤ sizeLine; decide, fun p hp => ?_⟩
        obtain ⟨m, rfl⟩ : ∃ m : Nat, n = m := ⟨n.toNat, by omega⟩
        refine ⟨_, rfl, m, rfl, by omega, fun H1 r s1 fr hr1 => ?_⟩
        refine ⟨p, r, _, _, rfl, rfl, s1 _ _ upd_same, hr1, ?_, fun z hz => ?_⟩
        · rw [List.length_map, lagL_len]
          exact Nat.le_of_lt (small1000 (by show 1 + (m + 1) ≤ 1000; omega))
        · refine q _ z ?_
          rw [upd_same, lag_good (by omega) (by omega)]
          rfl
theorem all_mk {P : Program} {w : World} {K : PySem.W.Frag} {h : Heap} {mg : Str → Option Value} {fa f1 f2 f3 f4 f5 f6 f7 : Addr} (X : K.In h) (G : h.Ns mainGlobals mg) (hfa : mg "laguerre" = some (.ref fa))
    {od1 an1 od2 an2 od3 an3 od4 an4 od5 an5 od6 an6 od7 an7 : Option Addr} {sl1 sl2 sl3 sl4 sl5 sl6 sl7 : Array (Option Value)} {oc1 kV1 dc1 pm1 cd1 ct1 oc2 kV2 dc2 pm2 cd2 ct2 oc3 kV3 dc3 pm3 cd3 ct3 oc4 kV4 dc4 pm4 cd4 ct4 oc5 kV5 dc5 pm5 cd5 ct5 oc6 kV6 dc6 pm6 cd6 ct6 oc7 kV7 dc7 pm7 cd7 ct7 : Value}
    {t_MOST_LAGUERRE t_NO_DEGREE : Tok}
    (a1 : PySem.W.nsIn K mainGlobals "product_of" = some (some (.ref f1)))
    (l1 : K.lookup f1 = some ⟨oc1, od1, .func (PySem.W.fnOf "product_of" "product_of" (defArgs sProd) (defBody sProd) (defScope sProd) .none kV1 dc1 pm1 an1 cd1 ct1), sl1⟩)
    (c1 : PySem.W.codeIn K cd1 "product_of" = true)
    (k1 : PySem.W.keepIn K (.ref f1) = true)
    (a2 : PySem.W.nsIn K mainGlobals "choices" = some (some (.ref f2)))
    (l2 : K.lookup f2 = some ⟨oc2, od2, .func (PySem.W.fnOf "choices" "choices" (defArgs sChoices) (defBody sChoices) (defScope sChoices) .none kV2 dc2 pm2 an2 cd2 ct2), sl2⟩)
    (c2 : PySem.W.codeIn K cd2 "choices" = true)
    (k2 : PySem.W.keepIn K (.ref f2) = true)
    (a3 : PySem.W.nsIn K mainGlobals "exponential_number" = some (some (.ref f3)))
    (l3 : K.lookup f3 = some ⟨oc3, od3, .func (PySem.W.fnOf "exponential_number" "exponential_number" (defArgs sExpNum) (defBody sExpNum) (defScope sExpNum) .none kV3 dc3 pm3 an3 cd3 ct3), sl3⟩)
    (c3 : PySem.W.codeIn K cd3 "exponential_number" = true)
    (k3 : PySem.W.keepIn K (.ref f3) = true)
    (a4 : PySem.W.nsIn K mainGlobals "sign_at" = some (some (.ref f4)))
    (l4 : K.lookup f4 = some ⟨oc4, od4, .func (PySem.W.fnOf "sign_at" "sign_at" (defArgs sSign) (defBody sSign) (defScope sSign) .none kV4 dc4 pm4 an4 cd4 ct4), sl4⟩)
    (c4 : PySem.W.codeIn K cd4 "sign_at" = true)
    (k4 : PySem.W.keepIn K (.ref f4) = true)
    (a5 : PySem.W.nsIn K mainGlobals "laguerre_number" = some (some (.ref f5)))
    (l5 : K.lookup f5 = some ⟨oc5, od5, .func (PySem.W.fnOf "laguerre_number" "laguerre_number" (defArgs sLagNum) (defBody sLagNum) (defScope sLagNum) .none kV5 dc5 pm5 an5 cd5 ct5), sl5⟩)
    (c5 : PySem.W.codeIn K cd5 "laguerre_number" = true)
    (k5 : PySem.W.keepIn K (.ref f5) = true)
    (a6 : PySem.W.nsIn K mainGlobals "second_family" = some (some (.ref f6)))
    (l6 : K.lookup f6 = some ⟨oc6, od6, .func (PySem.W.fnOf "second_family" "second_family" (defArgs sSecond) (defBody sSecond) (defScope sSecond) .none kV6 dc6 pm6 an6 cd6 ct6), sl6⟩)
    (c6 : PySem.W.codeIn K cd6 "second_family" = true)
    (k6 : PySem.W.keepIn K (.ref f6) = true)
    (a7 : PySem.W.nsIn K mainGlobals "laguerre" = some (some (.ref f7)))
    (l7 : K.lookup f7 = some ⟨oc7, od7, .func (PySem.W.fnOf "laguerre" "laguerre" (defArgs sLaguerre) (defBody sLaguerre) (defScope sLaguerre) .none kV7 dc7 pm7 an7 cd7 ct7), sl7⟩)
    (c7 : PySem.W.codeIn K cd7 "laguerre" = true)
    (k7 : PySem.W.keepIn K (.ref f7) = true)
    (z_range : PySem.W.nsIn K mainGlobals "range" = some none)
    (g_MOST_LAGUERRE : PySem.W.nsIn K mainGlobals "MOST_LAGUERRE" = some (some (.int 18 t_MOST_LAGUERRE)))
    (g_NO_DEGREE : PySem.W.nsIn K mainGlobals "NO_DEGREE" = some (some (.int (-2) t_NO_DEGREE)))
    : ∃ fd : FuncData, (∀ (s : Shared) (us : List Value), us.length = (["n"] : List Str).length → BindsTo s fd ⟨us, []⟩ ((["n"] : List Str).zip us)) ∧ ∀ base : Heap, K.In base → base.Ns mainGlobals mg → FnOk P w K mg base CX0 5 fa fd ["n"] (spLaguerre) := by
  have e := hfa.symm.trans (PySem.W.mg_of X G a7)
  cases e
  have F1 := fun_mk (st := sProd) l1 c1 k1
  have b1 := F1.binds (ps := ["least", "most"]) fun _ _ _ _ _ _ us hl => match us, hl with | [_, _], _ => rfl
  have F2 := fun_mk (st := sChoices) l2 c2 k2
  have b2 := F2.binds (ps := ["n", "k"]) fun _ _ _ _ _ _ us hl => match us, hl with | [_, _], _ => rfl
  have F3 := fun_mk (st := sExpNum) l3 c3 k3
  have b3 := F3.binds (ps := ["n", "k"]) fun _ _ _ _ _ _ us hl => match us, hl with | [_, _], _ => rfl
  have F4 := fun_mk (st := sSign) l4 c4 k4
  have b4 := F4.binds (ps := ["k"]) fun _ _ _ _ _ _ us hl => match us, hl with | [_], _ => rfl
  have F5 := fun_mk (st := sLagNum) l5 c5 k5
  have b5 := F5.binds (ps := ["n", "k"]) fun _ _ _ _ _ _ us hl => match us, hl with | [_, _], _ => rfl
  have F6 := fun_mk (st := sSecond) l6 c6 k6
  have b6 := F6.binds (ps := ["n"]) fun _ _ _ _ _ _ us hl => match us, hl with | [_], _ => rfl
  have F7 := fun_mk (st := sLaguerre) l7 c7 k7
  refine ⟨PySem.W.fnOf "laguerre" "laguerre" (defArgs sLaguerre) (defBody sLaguerre) (defScope sLaguerre) .none kV7 dc7 pm7 an7 cd7 ct7, fun s us hu => match us, hu with | [_], _ => .of_eq rfl, fun base _ _ => ?_⟩
  have D1 : Cl P w K mg base 1 "product_of" ["least", "most"] (spProd) := ⟨f1, _, ok_prod F1 (PySem.W.mg_none_of X G z_range), PySem.W.mg_of X G a1, k1, b1⟩
  have D2 : Cl P w K mg base 2 "choices" ["n", "k"] (spChoices) := ⟨f2, _, ok_choices F2 D1, PySem.W.mg_of X G a2, k2, b2⟩
  have D3 : Cl P w K mg base 2 "exponential_number" ["n", "k"] (spExpNum) := ⟨f3, _, ok_expnum F3 D1, PySem.W.mg_of X G a3, k3, b3⟩
  have D4 : Cl P w K mg base 1 "sign_at" ["k"] (spSign) := ⟨f4, _, ok_sign F4 , PySem.W.mg_of X G a4, k4, b4⟩
  have D5 : Cl P w K mg base 3 "laguerre_number" ["n", "k"] (spLagNum) := ⟨f5, _, ok_lagnum F5 D4 D3 D2, PySem.W.mg_of X G a5, k5, b5⟩
  have D6 : Cl P w K mg base 4 "second_family" ["n"] (spSecond) := ⟨f6, _, ok_second F6 (PySem.W.mg_none_of X G z_range) D5, PySem.W.mg_of X G a6, k6, b6⟩
  exact ok_laguerre F7 (PySem.W.mg_of X G g_MOST_LAGUERRE) (PySem.W.mg_of X G g_NO_DEGREE) D6
end My
open PySem PySem.W PyProof.Rows
set_option maxRecDepth 100000 in
set_option maxHeartbeats 8000000 in
theorem PySem.Challenge.cw_unparted_s06_laguerre_holds : PySem.Challenge.rw_unparted_s06_laguerre.Holds := by
  w_on; k_headS; (case hw => exact ⟨[.int 0], by decide +kernel, by decide +kernel⟩)
  k_fillS
  refine L2.walk_specK (r := PySem.Challenge.rw_unparted_s06_laguerre) (k := 5) (CX := L2.CX0) (ps := ["n"]) (sp := fun K => My.spLaguerre) (by decide +kernel) rfl rfl ⟨rfl, by decide, by decide⟩ (fun w h Y => PySem.W.kIn_of Y) ?F ?S (fun _ _ _ _ z => z)
  case F =>
    intro w mg fa h Y KX G hmg
    refine' My.all_mk KX G hmg ?a1 ?l1 ?c1 ?k1 ?a2 ?l2 ?c2 ?k2 ?a3 ?l3 ?c3 ?k3 ?a4 ?l4 ?c4 ?k4 ?a5 ?l5 ?c5 ?k5 ?a6 ?l6 ?c6 ?k6 ?a7 ?l7 ?c7 ?k7 ?z_range ?g_MOST_LAGUERRE ?g_NO_DEGREE
    (case a1 => k_is)
    (case l1 => k_is)
    (case c1 => k_is)
    (case k1 => k_is)
    (case a2 => k_is)
    (case l2 => k_is)
    (case c2 => k_is)
    (case k2 => k_is)
    (case a3 => k_is)
    (case l3 => k_is)
    (case c3 => k_is)
    (case k3 => k_is)
    (case a4 => k_is)
    (case l4 => k_is)
    (case c4 => k_is)
    (case k4 => k_is)
    (case a5 => k_is)
    (case l5 => k_is)
    (case c5 => k_is)
    (case k5 => k_is)
    (case a6 => k_is)
    (case l6 => k_is)
    (case c6 => k_is)
    (case k6 => k_is)
    (case a7 => k_is)
    (case l7 => k_is)
    (case c7 => k_is)
    (case k7 => k_is)
    (case z_range => k_is)
    (case g_MOST_LAGUERRE => k_is)
    (case g_NO_DEGREE => k_is)
  case S =>
    intro K H xs a hO hwi hask hx
    cases hx with
    | cons h1 h2 =>
      cases h2
      cases h1 with
      | int _ =>
        exact ⟨a.1, rfl, fun H' p hp => .lst (L2.SqL.of hp) (L2.dw_ints _)⟩
#print axioms PySem.Challenge.cw_unparted_s06_laguerre_holds
