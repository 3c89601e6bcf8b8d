import PyProof.Rows.All
import Wide.All
import OpenK.AllK
import Wide.FinOn
import Open.SpecLaws
import KE.OsGo
import HandS.ForSpec
import HandS.Comp
import HandS.Iter
import HandS.Wide
import PySem.Challenge.RW_unparted_s01_height
set_option Elab.async false
set_option maxRecDepth 100000
set_option maxHeartbeats 2000000
namespace My
open PySem PySem.Spec PyProof.Rows L2
open PySem.W (Codec)
/-- a def that stands under its own name in the module and keeps its promise -/
structure Cl (P : Program) (w : World) (K : PySem.W.Frag) (mg : Str → Option Value) (base : Heap) (k : Nat) (x : Str) (ps : List Str) (sp : Sp) : Prop where
  ex : ∃ (f : Addr) (fd : FuncData), FnOk P w K mg base CX0 k f fd ps sp ∧ mg x = some (.ref f) ∧ PySem.W.keepIn K (.ref f) = true ∧ Binds K fd ps []
theorem if_true_of {c : Bool} {A B : Prop} (hc : c = true) (h : A) : if c = true then A else B := by
  rw [if_pos hc]
  exact h
theorem if_false_of {c : Bool} {A B : Prop} (hc : c = false) (h : B) : if c = true then A else B := by
  rw [hc, if_neg Bool.false_ne_true]
  exact h
theorem same_upd {H : Hp} {p : Addr} {o : HO} (h : H p = none) : Same H (upd H p o) := fun b u e => by
  rw [upd_ne (ne_of_none e h)]
  exact e
variable {P : Program} {w : World} {K : PySem.W.Frag} {mg : Str → Option Value} {base : Heap}
/-- the i-th statement of the program -/
def top (i : Nat) : Stmt := PySem.Challenge.pw_unparted_s01_height.main.body.getD i (.Pass ⟨0, 0, 0, 0⟩)
abbrev sDivides : Stmt := top 2
abbrev sIsPrime : Stmt := top 3
abbrev sHeightOf : Stmt := top 4
abbrev sHeight : Stmt := top 8
/-! divides, is_prime, height_of -/
theorem dec_int (a b : Int) : decide (V.int a = V.int b) = decide (a = b) := by
  by_cases h : a = b
  · rw [decide_eq_true h, decide_eq_true (congrArg V.int h)]
  · rw [decide_eq_false h, decide_eq_false fun e => h (V.int.inj e)]
def spDivides : Sp := fun vs H Q _ => ∃ p n : Int, vs = [.int p, .int n] ∧ 0 < p ∧ Q (.bl (decide (n % p = 0))) H
theorem scDivides : FnScope ["p", "number"] ["p", "number"] (defScope sDivides) := ⟨rfl, rfl, rfl, by decide +kernel, rfl, by decide +kernel, by decide +kernel⟩
theorem ok_divides {f : Addr} {fd : FuncData} (F : Fun K "divides" "divides" sDivides f fd) : FnOk P w K mg base CX0 1 f fd ["p", "number"] spDivides := by
  refine F.ok scDivides (fun vs H Q E h => ?_) (fun cdv A outer s H vs Q E hr h => ?_)
  · obtain ⟨p, n, rfl, _⟩ := h
    rfl
  · obtain ⟨p, n, rfl, hp, q⟩ := h
    refine ⟨_, pss_one (ps_ret (pe_cmpR op_eq (pe_op op_mod (pv 1) (pv 0)) pe_int (nomark _))), ?_⟩
    rw [← dec_int] at q
    exact ⟨_, rfl, _, rfl, _, _, rfl, rfl, hp, rfl, q⟩
theorem prime_small {p : Nat} (h : p < 2) : Sn90.primeOk p = false := by
  unfold Sn90.primeOk Sn90.prime
  rw [decide_eq_false (p := 2 ≤ p) (by omega), Bool.false_and, Bool.and_false]
theorem prime_great {p : Nat} (h : 65536 ≤ p) : Sn90.primeOk p = false := by
  unfold Sn90.primeOk
  rw [decide_eq_false (by omega), Bool.false_and]
theorem prime_no {p d : Nat} (h2 : 2 ≤ d) (h : d < p) (e : p % d = 0) : Sn90.primeOk p = false := by
  unfold Sn90.primeOk Sn90.prime
  have : ((List.range p).all fun d => decide (d < 2) || p % d != 0) = false := by
    rw [List.all_eq_false]
    refine ⟨d, List.mem_range.mpr h, ?_⟩
    rw [decide_eq_false (by omega), e]
    decide
  rw [this, Bool.and_false, Bool.and_false]
theorem prime_yes {p : Nat} (h2 : 2 ≤ p) (hb : p < 65536) (h : ∀ j : Nat, j < 254 → ¬ (2 + j < p ∧ p % (2 + j) = 0)) : Sn90.primeOk p = true := by
  unfold Sn90.primeOk Sn90.prime
  rw [decide_eq_true hb, decide_eq_true h2, Bool.true_and, Bool.true_and, List.all_eq_true]
  intro d hd
  have hdp := List.mem_range.mp hd
  by_cases c : d < 2
  · rw [decide_eq_true c, Bool.true_or]
  · by_cases e : p % d = 0
    · exfalso
      have hm : d * (p / d) = p := Nat.mul_div_cancel' (Nat.dvd_of_mod_eq_zero e)
      generalize hq : p / d = q at hm
      by_cases c1 : d < 256
      · exact h (d - 2) (by omega) ⟨by omega, by rw [show 2 + (d - 2) = d by omega]; exact e⟩
      · have hq1 : q < 256 := by
          by_cases c2 : q < 256
          · exact c2
          · have := Nat.mul_le_mul (show 256 ≤ d by omega) (show 256 ≤ q by omega)
            omega
        have hq2 : 2 ≤ q := by
          by_cases c2 : 2 ≤ q
          · exact c2
          · have : q = 0 ∨ q = 1 := by omega
            rcases this with z | z
            · rw [z] at hm
              omega
            · rw [z] at hm
              omega
        refine h (q - 2) (by omega) ⟨by omega, ?_⟩
        rw [show 2 + (q - 2) = q by omega, ← hm, Nat.mul_mod_left]
    · rw [decide_eq_false c, Bool.false_or]
      exact bne_iff_ne.mpr e
theorem mod_two (p i : Nat) : (p : Int) % ((2 : Int) + i) = ((p % (2 + i) : Nat) : Int) := by
  rw [Int.natCast_emod, Int.natCast_add]
  rfl
def spIsPrime : Sp := fun vs H Q _ => ∃ p : Nat, vs = [.int p] ∧ Q (.bl (Sn90.primeOk p)) H
theorem scIsPrime : FnScope ["p", "by"] ["p"] (defScope sIsPrime) := ⟨rfl, rfl, rfl, by decide +kernel, rfl, by decide +kernel, by decide +kernel⟩
theorem ok_is_prime {f : Addr} {fd : FuncData} (F : Fun K "is_prime" "is_prime" sIsPrime f fd) (mr : mg "range" = none) {t1 : Tok} (g1 : mg "BEYOND" = some (.int 65536 t1)) (C1 : Cl P w K mg base 1 "divides" ["p", "number"] spDivides) : FnOk P w K mg base CX0 2 f fd ["p"] spIsPrime := by
  obtain ⟨f1, d1, G1, m1, k1, b1⟩ := C1
  refine F.ok scIsPrime (fun vs H Q E h => ?_) (fun cdv A outer s H vs Q E hr h => ?_)
  · obtain ⟨p, rfl, _⟩ := h
    rfl
  · obtain ⟨p, rfl, q⟩ := h
    refine ⟨_, pss_cons (ps_if (PW.pt (pw_or (pt_cmpR op_lt (pv 0) pe_int (nomark _)) (pw_or1 (pt_cmpR op_ge (pv 0) (pe_glob (v := .int 65536) rfl g1 ⟨_, rfl⟩) (nomark _)))))
        (pss_one (ps_ret pe_bl)) pss_nil)
      (pss_cons (ps_for PassesOwn.never rfl (pi_range2 rfl mr (pa_cons pe_int (pa_cons pe_int pa_nil))) (pg_name (i := 1) scIsPrime.nd rfl (.inl rfl))
        (pss_one (ps_if (PW.pt (pw_and (pt_cmpR op_lt (pv 1) (pv 0) (nomark _)) (pw_and1 (pt_val (pe_call G1 hr rfl m1 k1 b1 .nil pass0 (pa_cons (pv 1) (pa_cons (pv 0) pa_nil)))))))
          (pss_one (ps_ret pe_bl)) pss_nil)))
      (pss_one (ps_ret pe_bl))), ?_⟩
    refine ⟨_, rfl, _, _, rfl, rfl, _, rfl, ?_⟩
    by_cases c1 : (p : Int) < 2
    · refine if_true_of (decide_eq_true c1) ?_
      refine iteT ?_
      rw [prime_small (by omega)] at q
      exact q
    · refine if_false_of (decide_eq_false c1) ?_
      refine ⟨_, rfl, _, _, rfl, rfl, _, rfl, ?_⟩
      by_cases c2 : (65536 : Int) ≤ p
      · refine if_true_of (decide_eq_true c2) ?_
        rw [prime_great (by omega)] at q
        exact q
      · refine if_false_of (decide_eq_false c2) ?_
        refine ⟨2, 256, rfl, ⟨by decide, by decide, by decide, by decide⟩, for_range (lo := 2) (n := ((256 : Int) - 2).toNat) (fun i σ H' => H' = H ∧ (∀ j : Nat, j < i → ¬ (2 + j < p ∧ p % (2 + j) = 0)) ∧ ∃ v, σ = [some (.int p), v]) ⟨rfl, fun j hj => absurd hj (Nat.not_lt_zero j), none, rfl⟩ ?_ ?_⟩
        · rintro i σ _ hi ⟨rfl, ha, v, rfl⟩
          refine ⟨_, rfl, _, rfl, _, _, rfl, rfl, _, rfl, ?_⟩
          by_cases c3 : (2 : Int) + i < p
          · refine if_true_of (decide_eq_true c3) ?_
            refine ⟨_, rfl, _, rfl, (2 : Int) + i, p, rfl, by omega, _, rfl, ?_⟩
            by_cases c4 : (p : Int) % ((2 : Int) + i) = 0
            · refine if_true_of (decide_eq_true c4) ?_
              rw [mod_two] at c4
              rw [prime_no (d := 2 + i) (by omega) (by omega) (by omega)] at q
              exact q
            · refine if_false_of (decide_eq_false c4) ?_
              refine ⟨rfl, fun j hj => ?_, _, rfl⟩
              by_cases c5 : j = i
              · subst c5
                rintro ⟨_, e⟩
                exact c4 (by rw [mod_two, e]; rfl)
              · exact ha j (by omega)
          · refine if_false_of (decide_eq_false c3) ?_
            refine if_false_of rfl ?_
            refine ⟨rfl, fun j hj => ?_, _, rfl⟩
            by_cases c5 : j = i
            · subst c5
              rintro ⟨e, _⟩
              exact c3 (by omega)
            · exact ha j (by omega)
        · rintro σ _ ⟨rfl, ha, v, rfl⟩
          rw [prime_yes (by omega) (by omega) (fun j hj => ha j hj)] at q
          exact q
/-! how often p divides -/
theorem often_zero (p : Nat) : ∀ k : Nat, Sn90.often p k 0 = 0
  | 0 => rfl
  | k + 1 => if_neg fun h => h.1 rfl
theorem often_fuel {p : Nat} (hp : 2 ≤ p) : ∀ (k j n : Nat), n ≤ k → n ≤ j → Sn90.often p k n = Sn90.often p j n
  | k, j, 0, _, _ => by rw [often_zero, often_zero]
  | 0, _, n + 1, h, _ => absurd h (by omega)
  | _ + 1, 0, n + 1, _, h => absurd h (by omega)
  | k + 1, j + 1, n + 1, h1, h2 => by
    have hd : (n + 1) / p ≤ n := by
      have h3 : (n + 1) / p ≤ (n + 1) / 2 := Nat.div_le_div_left hp (by decide)
      omega
    show (if n + 1 ≠ 0 ∧ (n + 1) % p = 0 then 1 + Sn90.often p k ((n + 1) / p) else 0) = (if n + 1 ≠ 0 ∧ (n + 1) % p = 0 then 1 + Sn90.often p j ((n + 1) / p) else 0)
    rw [often_fuel hp k j ((n + 1) / p) (by omega) (by omega)]
theorem abs_div {p : Nat} {y : Int} (hp : 2 ≤ p) (e : y % (p : Int) = 0) : (y / (p : Int)).natAbs = y.natAbs / p := by
  have h : (p : Int) * (y / (p : Int)) = y := Int.mul_ediv_cancel' (Int.dvd_of_emod_eq_zero e)
  generalize y / (p : Int) = x at h ⊢
  rw [← h, Int.natAbs_mul, Int.natAbs_natCast, Nat.mul_div_cancel_left _ (by omega)]
theorem abs_mod {p : Nat} {y : Int} : y % (p : Int) = 0 ↔ y.natAbs % p = 0 :=
  ⟨fun h => Nat.mod_eq_zero_of_dvd (Int.ofNat_dvd_left.mp (Int.dvd_of_emod_eq_zero h)), fun h => Int.emod_eq_zero_of_dvd (Int.ofNat_dvd_left.mpr (Nat.dvd_of_mod_eq_zero h))⟩
theorem height_more {p : Nat} {y : Int} (hp : 2 ≤ p) (h0 : y ≠ 0) (e : y % (p : Int) = 0) : Sn90.height p y = 1 + Sn90.height p (y / (p : Int)) := by
  unfold Sn90.height
  rw [abs_div hp e]
  have hm := abs_mod.mp e
  obtain ⟨k, hk⟩ : ∃ k, y.natAbs = k + 1 := ⟨y.natAbs - 1, by omega⟩
  rw [hk] at hm ⊢
  show (if k + 1 ≠ 0 ∧ (k + 1) % p = 0 then 1 + Sn90.often p k ((k + 1) / p) else 0) = _
  rw [if_pos ⟨by omega, hm⟩]
  have h3 : (k + 1) / p ≤ (k + 1) / 2 := Nat.div_le_div_left hp (by decide)
  rw [often_fuel hp k ((k + 1) / p) ((k + 1) / p) (by omega) (Nat.le_refl _)]
theorem height_none {p : Nat} {y : Int} (e : ¬ y % (p : Int) = 0) : Sn90.height p y = 0 := by
  unfold Sn90.height
  have hm : ¬ y.natAbs % p = 0 := fun h => e (abs_mod.mpr h)
  cases hk : y.natAbs with
  | zero => rfl
  | succ k =>
    rw [hk] at hm
    exact if_neg fun h => hm h.2
/-- the loop's measure: the number at the second name -/
def sizeAt : L2.St → Nat
  | [_, some (.int y), _] => y.natAbs
  | _ => 0
def spHeightOf : Sp := fun vs H Q _ => ∃ (p : Nat) (z : Int), vs = [.int p, .int z] ∧ (2 ≤ p ∧ p < 65536) ∧ z ≠ 0 ∧ Q (.int (Sn90.height p z : Nat)) H
theorem scHeightOf : FnScope ["p", "number", "found"] ["p", "number"] (defScope sHeightOf) := ⟨rfl, rfl, rfl, by decide +kernel, rfl, by decide +kernel, by decide +kernel⟩
theorem ok_height_of {f : Addr} {fd : FuncData} (F : Fun K "height_of" "height_of" sHeightOf f fd) (C1 : Cl P w K mg base 1 "divides" ["p", "number"] spDivides) : FnOk P w K mg base CX0 2 f fd ["p", "number"] spHeightOf := by
  obtain ⟨f1, d1, G1, m1, k1, b1⟩ := C1
  refine F.ok scHeightOf (fun vs H Q E h => ?_) (fun cdv A outer s H vs Q E hr h => ?_)
  · obtain ⟨p, z, rfl, _⟩ := h
    rfl
  · obtain ⟨p, z, rfl, ⟨hp, hb⟩, hz, q⟩ := h
    refine ⟨_, pss_cons (ps_set (i := 2) scHeightOf.nd rfl (.inl rfl) pe_int)
      (pss_cons (ps_while PassesOwn.never (pt_val (pe_call G1 hr rfl m1 k1 b1 .nil pass0 (pa_cons (pv 0) (pa_cons (pv 1) pa_nil))))
        (pss_cons (ps_set (i := 1) scHeightOf.nd rfl (.inl rfl) (pe_op op_fdiv (pv 1) (pv 0)))
          (pss_one (ps_set (i := 2) scHeightOf.nd rfl (.inl rfl) (pe_op op_add (pv 2) pe_int)))))
      (pss_one (ps_ret (pv 2)))), ?_⟩
    refine while_by (fun σ H' => H' = H ∧ ∃ (y : Int) (k : Nat), σ = [some (.int p), some (.int y), some (.int k)] ∧ y ≠ 0 ∧ Sn90.height p z = k + Sn90.height p y) (fun σ _ => sizeAt σ)
      ⟨rfl, z, 0, rfl, hz, (Nat.zero_add _).symm⟩ ?_ ?_
    · rintro σ _ ⟨rfl, y, k, rfl, hy, e⟩
      refine ⟨_, rfl, _, rfl, p, y, rfl, by omega, _, rfl, ?_⟩
      by_cases c : y % (p : Int) = 0
      · refine if_true_of (decide_eq_true c) ?_
        refine ⟨_, rfl, _, rfl, _, _, rfl, rfl, ⟨by omega, by omega⟩, ?_⟩
        refine ⟨_, rfl, _, _, rfl, rfl, ?_⟩
        have ha := abs_div hp c
        have hlt : y.natAbs / p < y.natAbs := Nat.div_lt_self (by omega) (by omega)
        have hne : y / (p : Int) ≠ 0 := by
          intro h0
          have h : (p : Int) * (y / (p : Int)) = y := Int.mul_ediv_cancel' (Int.dvd_of_emod_eq_zero c)
          rw [h0, Int.mul_zero] at h
          exact hy h.symm
        refine ⟨⟨rfl, y / (p : Int), k + 1, rfl, hne, ?_⟩, ?_⟩
        · rw [e, height_more hp hy c]
          omega
        · show (y / (p : Int)).natAbs < y.natAbs
          rw [ha]
          exact hlt
      · refine if_false_of (decide_eq_false c) ?_
        rw [height_none c] at e
        rw [e] at q
        exact ⟨_, rfl, q⟩
    · rintro σ H Q Q' m ⟨v, e, v2, e2, p, n, e3, h, c, e4, q⟩
      exact ⟨v, e, v2, e2, p, n, e3, h, c, e4, m _ _ q⟩
/-! height -/
theorem height_np {p : Int} {z : Int} (h : Sn90.primeOk p.toNat = false) : PySn90.height p z = [-3] := by
  show (if Sn90.primeOk p.toNat = false then Sn90.ok (-3) else if z = 0 then Sn90.ok (-5) else Sn90.ok (Sn90.height p.toNat z : Nat) : Sn90.Ans).v :: (if Sn90.primeOk p.toNat = false then Sn90.ok (-3) else if z = 0 then Sn90.ok (-5) else Sn90.ok (Sn90.height p.toNat z : Nat) : Sn90.Ans).l = _
  rw [if_pos h]
  rfl
theorem height_nz {p : Int} (h : Sn90.primeOk p.toNat = true) : PySn90.height p 0 = [-5] := by
  show (if Sn90.primeOk p.toNat = false then Sn90.ok (-3) else if (0 : Int) = 0 then Sn90.ok (-5) else Sn90.ok (Sn90.height p.toNat 0 : Nat) : Sn90.Ans).v :: (if Sn90.primeOk p.toNat = false then Sn90.ok (-3) else if (0 : Int) = 0 then Sn90.ok (-5) else Sn90.ok (Sn90.height p.toNat 0 : Nat) : Sn90.Ans).l = _
  rw [h, if_neg (by decide), if_pos rfl]
  rfl
theorem height_ok {p : Int} {z : Int} (h : Sn90.primeOk p.toNat = true) (hz : z ≠ 0) : PySn90.height p z = [((Sn90.height p.toNat z : Nat) : Int)] := by
  show (if Sn90.primeOk p.toNat = false then Sn90.ok (-3) else if z = 0 then Sn90.ok (-5) else Sn90.ok (Sn90.height p.toNat z : Nat) : Sn90.Ans).v :: (if Sn90.primeOk p.toNat = false then Sn90.ok (-3) else if z = 0 then Sn90.ok (-5) else Sn90.ok (Sn90.height p.toNat z : Nat) : Sn90.Ans).l = _
  rw [h, if_neg (by decide), if_neg hz]
  rfl
theorem prime_bounds {p : Nat} (h : Sn90.primeOk p = true) : 2 ≤ p ∧ p < 65536 := by
  constructor
  · by_cases c : p < 2
    · rw [prime_small c] at h
      cases h
    · omega
  · by_cases c : 65536 ≤ p
    · rw [prime_great c] at h
      cases h
    · omega
def spHeight : Sp := fun vs H Q _ => ∃ p z : Int, vs = [.int p, .int z] ∧ 0 ≤ p ∧
  ∀ (H' : Hp) (r : Addr), H' r = some (.lst ((PySn90.height p z).map V.int)) → Q (.ref r) H'
theorem scHeight : FnScope ["p", "z"] ["p", "z"] (defScope sHeight) := ⟨rfl, rfl, rfl, by decide +kernel, rfl, by decide +kernel, by decide +kernel⟩
theorem ok_height {f : Addr} {fd : FuncData} (F : Fun K "height" "height" sHeight f fd) {t1 t2 : Tok} (g1 : mg "NOT_SO" = some (.int (-3) t1)) (g2 : mg "NOTHING" = some (.int (-5) t2)) (C1 : Cl P w K mg base 2 "is_prime" ["p"] spIsPrime)
    (C2 : Cl P w K mg base 2 "height_of" ["p", "number"] spHeightOf) : FnOk P w K mg base CX0 3 f fd ["p", "z"] spHeight := by
  obtain ⟨f1, d1, G1, m1, k1, b1⟩ := C1
  obtain ⟨f2, d2, G2, m2, k2, b2⟩ := C2
  refine F.ok scHeight (fun vs H Q E h => ?_) (fun cdv A outer s H vs Q E hr h => ?_)
  · obtain ⟨p, z, rfl, _⟩ := h
    rfl
  · obtain ⟨p, z, rfl, hp, q⟩ := h
    obtain ⟨p, rfl⟩ : ∃ n : Nat, p = n := ⟨p.toNat, by omega⟩
    refine ⟨_, pss_cons (ps_if (pt_not (pt_val (pe_call G1 hr rfl m1 k1 b1 .nil pass0 (pa_cons (pv 0) pa_nil))))
        (pss_one (ps_ret (pe_lst (pa_cons (pe_glob (v := .int (-3)) rfl g1 ⟨_, rfl⟩) pa_nil)))) pss_nil)
      (pss_cons (ps_if (pt_cmpR op_eq (pv 1) pe_int (nomark _)) (pss_one (ps_ret (pe_lst (pa_cons (pe_glob (v := .int (-5)) rfl g2 ⟨_, rfl⟩) pa_nil)))) pss_nil)
      (pss_one (ps_ret (pe_lst (pa_cons (pe_call G2 hr rfl m2 k2 b2 .nil pass0 (pa_cons (pv 0) (pa_cons (pv 1) pa_nil))) pa_nil))))), ?_⟩
    refine ⟨_, rfl, p, rfl, _, rfl, ?_⟩
    cases c : Sn90.primeOk p with
    | false =>
      refine if_true_of rfl ?_
      refine ⟨by show 1 ≤ sizeLine; decide, fun r hr => q _ r ?_⟩
      rw [upd_same, height_np (by rw [Int.toNat_natCast]; exact c)]
      rfl
    | true =>
      refine if_false_of rfl ?_
      refine ⟨_, rfl, rfl, _, rfl, ?_⟩
      by_cases c2 : z = 0
      · subst c2
        refine if_true_of rfl ?_
        refine ⟨by show 1 ≤ sizeLine; decide, fun r hr => q _ r ?_⟩
        rw [upd_same, height_nz (by rw [Int.toNat_natCast]; exact c)]
        rfl
      · refine if_false_of ((dec_int z 0).trans (decide_eq_false c2)) ?_
        refine ⟨_, rfl, _, rfl, p, z, rfl, prime_bounds c, c2, by show 1 ≤ sizeLine; decide, fun r hr => q _ r ?_⟩
        rw [upd_same, height_ok (by rw [Int.toNat_natCast]; exact c) c2, Int.toNat_natCast]
        rfl
theorem all_mk {P : Program} {w : World} {K : PySem.W.Frag} {h : Heap} {mg : Str → Option Value} {fa f1 f2 f3 f4 : Addr} (X : K.In h) (G : h.Ns mainGlobals mg) (hfa : mg "height" = some (.ref fa))
    {od1 an1 od2 an2 od3 an3 od4 an4 : Option Addr} {sl1 sl2 sl3 sl4 : Array (Option Value)} {oc1 kV1 dc1 pm1 cd1 ct1 oc2 kV2 dc2 pm2 cd2 ct2 oc3 kV3 dc3 pm3 cd3 ct3 oc4 kV4 dc4 pm4 cd4 ct4 : Value}
    {t_BEYOND t_NOT_SO t_NOTHING : Tok}
    (a1 : PySem.W.nsIn K mainGlobals "divides" = some (some (.ref f1)))
    (l1 : K.lookup f1 = some ⟨oc1, od1, .func (PySem.W.fnOf "divides" "divides" (defArgs sDivides) (defBody sDivides) (defScope sDivides) .none kV1 dc1 pm1 an1 cd1 ct1), sl1⟩)
    (c1 : PySem.W.codeIn K cd1 "divides" = true)
    (k1 : PySem.W.keepIn K (.ref f1) = true)
    (a2 : PySem.W.nsIn K mainGlobals "is_prime" = some (some (.ref f2)))
    (l2 : K.lookup f2 = some ⟨oc2, od2, .func (PySem.W.fnOf "is_prime" "is_prime" (defArgs sIsPrime) (defBody sIsPrime) (defScope sIsPrime) .none kV2 dc2 pm2 an2 cd2 ct2), sl2⟩)
    (c2 : PySem.W.codeIn K cd2 "is_prime" = true)
    (k2 : PySem.W.keepIn K (.ref f2) = true)
    (a3 : PySem.W.nsIn K mainGlobals "height_of" = some (some (.ref f3)))
    (l3 : K.lookup f3 = some ⟨oc3, od3, .func (PySem.W.fnOf "height_of" "height_of" (defArgs sHeightOf) (defBody sHeightOf) (defScope sHeightOf) .none kV3 dc3 pm3 an3 cd3 ct3), sl3⟩)
    (c3 : PySem.W.codeIn K cd3 "height_of" = true)
    (k3 : PySem.W.keepIn K (.ref f3) = true)
    (a4 : PySem.W.nsIn K mainGlobals "height" = some (some (.ref f4)))
    (l4 : K.lookup f4 = some ⟨oc4, od4, .func (PySem.W.fnOf "height" "height" (defArgs sHeight) (defBody sHeight) (defScope sHeight) .none kV4 dc4 pm4 an4 cd4 ct4), sl4⟩)
    (c4 : PySem.W.codeIn K cd4 "height" = true)
    (k4 : PySem.W.keepIn K (.ref f4) = true)
    (z_range : PySem.W.nsIn K mainGlobals "range" = some none)
    (g_BEYOND : PySem.W.nsIn K mainGlobals "BEYOND" = some (some (.int 65536 t_BEYOND)))
    (g_NOT_SO : PySem.W.nsIn K mainGlobals "NOT_SO" = some (some (.int (-3) t_NOT_SO)))
    (g_NOTHING : PySem.W.nsIn K mainGlobals "NOTHING" = some (some (.int (-5) t_NOTHING)))
    : ∃ fd : FuncData, (∀ (s : Shared) (us : List Value), us.length = (["p", "z"] : List Str).length → BindsTo s fd ⟨us, []⟩ ((["p", "z"] : List Str).zip us)) ∧ ∀ base : Heap, K.In base → base.Ns mainGlobals mg → FnOk P w K mg base CX0 3 fa fd ["p", "z"] (spHeight) := by
  have e := hfa.symm.trans (PySem.W.mg_of X G a4)
  cases e
  have F1 := fun_mk (st := sDivides) l1 c1 k1
  have b1 := F1.binds (ps := ["p", "number"]) fun _ _ _ _ _ _ us hl => match us, hl with | [_, _], _ => rfl
  have F2 := fun_mk (st := sIsPrime) l2 c2 k2
  have b2 := F2.binds (ps := ["p"]) fun _ _ _ _ _ _ us hl => match us, hl with | [_], _ => rfl
  have F3 := fun_mk (st := sHeightOf) l3 c3 k3
  have b3 := F3.binds (ps := ["p", "number"]) fun _ _ _ _ _ _ us hl => match us, hl with | [_, _], _ => rfl
  have F4 := fun_mk (st := sHeight) l4 c4 k4
  refine ⟨PySem.W.fnOf "height" "height" (defArgs sHeight) (defBody sHeight) (defScope sHeight) .none kV4 dc4 pm4 an4 cd4 ct4, fun s us hu => match us, hu with | [_, _], _ => .of_eq rfl, fun base _ _ => ?_⟩
  have D1 : Cl P w K mg base 1 "divides" ["p", "number"] (spDivides) := ⟨f1, _, ok_divides F1 , PySem.W.mg_of X G a1, k1, b1⟩
  have D2 : Cl P w K mg base 2 "is_prime" ["p"] (spIsPrime) := ⟨f2, _, ok_is_prime F2 (PySem.W.mg_none_of X G z_range) (PySem.W.mg_of X G g_BEYOND) D1, PySem.W.mg_of X G a2, k2, b2⟩
  have D3 : Cl P w K mg base 2 "height_of" ["p", "number"] (spHeightOf) := ⟨f3, _, ok_height_of F3 D1, PySem.W.mg_of X G a3, k3, b3⟩
  exact ok_height F4 (PySem.W.mg_of X G g_NOT_SO) (PySem.W.mg_of X G g_NOTHING) D2 D3
end My
open PySem PySem.W PyProof.Rows
set_option maxRecDepth 100000 in
set_option maxHeartbeats 8000000 in
theorem PySem.Challenge.cw_unparted_s01_height_holds : PySem.Challenge.rw_unparted_s01_height.Holds := by
  w_on; k_headS; (case hw => exact ⟨[.int 0, .int 0], by decide +kernel, by decide +kernel⟩)
  k_fillS
  refine L2.walk_specK (r := PySem.Challenge.rw_unparted_s01_height) (k := 3) (CX := L2.CX0) (ps := ["p", "z"]) (sp := fun K => My.spHeight) (by decide +kernel) rfl rfl ⟨rfl, by decide, by decide⟩ (fun w h Y => PySem.W.kIn_of Y) ?F ?S (fun _ _ _ _ z => z)
  case F =>
    intro w mg fa h Y KX G hmg
    refine' My.all_mk KX G hmg ?a1 ?l1 ?c1 ?k1 ?a2 ?l2 ?c2 ?k2 ?a3 ?l3 ?c3 ?k3 ?a4 ?l4 ?c4 ?k4 ?z_range ?g_BEYOND ?g_NOT_SO ?g_NOTHING
    (case a1 => k_is)
    (case l1 => k_is)
    (case c1 => k_is)
    (case k1 => k_is)
    (case a2 => k_is)
    (case l2 => k_is)
    (case c2 => k_is)
    (case k2 => k_is)
    (case a3 => k_is)
    (case l3 => k_is)
    (case c3 => k_is)
    (case k3 => k_is)
    (case a4 => k_is)
    (case l4 => k_is)
    (case c4 => k_is)
    (case k4 => k_is)
    (case z_range => k_is)
    (case g_BEYOND => k_is)
    (case g_NOT_SO => k_is)
    (case g_NOTHING => k_is)
  case S =>
    intro K H xs a hO hwi hask hx
    cases hx with
    | cons h1 h2 =>
      cases h2 with
      | cons h2 h3 =>
        cases h3
        cases h1 with
        | int _ =>
          cases h2 with
          | int _ =>
            have q : ((Codec.inInt 0 4294967295 a.1) && ((Codec.inInt (-9223372036854775808) 9223372036854775807 a.2.1) && true)) = true := hwi
            rw [Bool.and_eq_true, Bool.and_eq_true] at q
            have q1 : (0 : Int) ≤ a.1 := by
              have q2 := q.1
              unfold Codec.inInt at q2
              rw [Bool.and_eq_true] at q2
              exact of_decide_eq_true q2.1
            exact ⟨a.1, a.2.1, rfl, q1, fun H' p hp => .lst (L2.SqL.of hp) (L2.dw_ints _)⟩
#print axioms PySem.Challenge.cw_unparted_s01_height_holds
