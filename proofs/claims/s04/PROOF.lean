import PyProof.Rows.All
import Wide.All
import OpenK.AllK
import Wide.FinOn
import Open.SpecLaws
import KE.OsGo
import HandS.ForSpec
import HandS.Comp
import HandS.Iter
import HandS.Wide
import HandS.WideBits
import PySem.Challenge.RW_unparted_s04_parts
set_option Elab.async false
set_option maxRecDepth 100000
set_option maxHeartbeats 2000000
namespace My
open PySem PySem.Spec PyProof.Rows L2
open PySem.W (Codec)
/-- a def that stands under its own name in the module and keeps its promise -/
structure Cl (P : Program) (w : World) (K : PySem.W.Frag) (mg : Str → Option Value) (base : Heap) (k : Nat) (x : Str) (ps : List Str) (sp : Sp) : Prop where
  ex : ∃ (f : Addr) (fd : FuncData), FnOk P w K mg base CX0 k f fd ps sp ∧ mg x = some (.ref f) ∧ PySem.W.keepIn K (.ref f) = true ∧ Binds K fd ps []
theorem if_true_of {c : Bool} {A B : Prop} (hc : c = true) (h : A) : if c = true then A else B := by
  rw [if_pos hc]
  exact h
theorem if_false_of {c : Bool} {A B : Prop} (hc : c = false) (h : B) : if c = true then A else B := by
  rw [hc, if_neg Bool.false_ne_true]
  exact h
theorem same_upd {H : Hp} {p : Addr} {o : HO} (h : H p = none) : Same H (upd H p o) := fun b u e => by
  rw [upd_ne (ne_of_none e h)]
  exact e
variable {P : Program} {w : World} {K : PySem.W.Frag} {mg : Str → Option Value} {base : Heap}
/-- the i-th statement of the program -/
def top (i : Nat) : Stmt := PySem.Challenge.pw_unparted_s04_parts.main.body.getD i (.Pass ⟨0, 0, 0, 0⟩)
abbrev sInit : Stmt := inClass (top 7) 0
abbrev sDivides : Stmt := top 2
abbrev sIsPrime : Stmt := top 3
abbrev sHeightOf : Stmt := top 4
abbrev sGcd : Stmt := top 5
abbrev sPointsOf : Stmt := top 8
abbrev sRunOf : Stmt := top 9
abbrev sRiseOf : Stmt := top 10
abbrev sSteep : Stmt := top 11
abbrev sNext : Stmt := top 12
abbrev sBehind : Stmt := top 13
abbrev sCornersOf : Stmt := top 14
abbrev sBetween : Stmt := top 15
abbrev sPiecesOf : Stmt := top 16
abbrev sTogether : Stmt := top 17
abbrev sRefusal : Stmt := top 22
abbrev sAllPieces : Stmt := top 23
abbrev sParts : Stmt := top 24
/-! divides, is_prime, height_of -/
theorem dec_int (a b : Int) : decide (V.int a = V.int b) = decide (a = b) := by
  by_cases h : a = b
  · rw [decide_eq_true h, decide_eq_true (congrArg V.int h)]
  · rw [decide_eq_false h, decide_eq_false fun e => h (V.int.inj e)]
def spDivides : Sp := fun vs H Q _ => ∃ p n : Int, vs = [.int p, .int n] ∧ 0 < p ∧ Q (.bl (decide (n % p = 0))) H
theorem scDivides : FnScope ["p", "number"] ["p", "number"] (defScope sDivides) := ⟨rfl, rfl, rfl, by decide +kernel, rfl, by decide +kernel, by decide +kernel⟩
theorem ok_divides {f : Addr} {fd : FuncData} (F : Fun K "divides" "divides" sDivides f fd) : FnOk P w K mg base CX0 1 f fd ["p", "number"] spDivides := by
  refine F.ok scDivides (fun vs H Q E h => ?_) (fun cdv A outer s H vs Q E hr h => ?_)
  · obtain ⟨p, n, rfl, _⟩ := h
    rfl
  · obtain ⟨p, n, rfl, hp, q⟩ := h
    refine ⟨_, pss_one (ps_ret (pe_cmpR op_eq (pe_op op_mod (pv 1) (pv 0)) pe_int (nomark _))), ?_⟩
    rw [← dec_int] at q
    exact ⟨_, rfl, _, rfl, _, _, rfl, rfl, hp, rfl, q⟩
theorem prime_small {p : Nat} (h : p < 2) : Sn90.primeOk p = false := by
  unfold Sn90.primeOk Sn90.prime
  rw [decide_eq_false (p := 2 ≤ p) (by omega), Bool.false_and, Bool.and_false]
theorem prime_great {p : Nat} (h : 65536 ≤ p) : Sn90.primeOk p = false := by
  unfold Sn90.primeOk
  rw [decide_eq_false (by omega), Bool.false_and]
theorem prime_bounds {p : Nat} (h : Sn90.primeOk p = true) : 2 ≤ p ∧ p < 65536 := by
  constructor
  · by_cases c : p < 2
    · rw [prime_small c] at h
      cases h
    · omega
  · by_cases c : 65536 ≤ p
    · rw [prime_great c] at h
      cases h
    · omega
theorem prime_no {p d : Nat} (h2 : 2 ≤ d) (h : d < p) (e : p % d = 0) : Sn90.primeOk p = false := by
  unfold Sn90.primeOk Sn90.prime
  have : ((List.range p).all fun d => decide (d < 2) || p % d != 0) = false := by
    rw [List.all_eq_false]
    refine ⟨d, List.mem_range.mpr h, ?_⟩
    rw [decide_eq_false (by omega), e]
    decide
  rw [this, Bool.and_false, Bool.and_false]
theorem prime_yes {p : Nat} (h2 : 2 ≤ p) (hb : p < 65536) (h : ∀ j : Nat, j < 254 → ¬ (2 + j < p ∧ p % (2 + j) = 0)) : Sn90.primeOk p = true := by
  unfold Sn90.primeOk Sn90.prime
  rw [decide_eq_true hb, decide_eq_true h2, Bool.true_and, Bool.true_and, List.all_eq_true]
  intro d hd
  have hdp := List.mem_range.mp hd
  by_cases c : d < 2
  · rw [decide_eq_true c, Bool.true_or]
  · by_cases e : p % d = 0
    · exfalso
      have hm : d * (p / d) = p := Nat.mul_div_cancel' (Nat.dvd_of_mod_eq_zero e)
      generalize hq : p / d = q at hm
      by_cases c1 : d < 256
      · exact h (d - 2) (by omega) ⟨by omega, by rw [show 2 + (d - 2) = d by omega]; exact e⟩
      · have hq1 : q < 256 := by
          by_cases c2 : q < 256
          · exact c2
          · have := Nat.mul_le_mul (show 256 ≤ d by omega) (show 256 ≤ q by omega)
            omega
        have hq2 : 2 ≤ q := by
          by_cases c2 : 2 ≤ q
          · exact c2
          · have : q = 0 ∨ q = 1 := by omega
            rcases this with z | z
            · rw [z] at hm
              omega
            · rw [z] at hm
              omega
        refine h (q - 2) (by omega) ⟨by omega, ?_⟩
        rw [show 2 + (q - 2) = q by omega, ← hm, Nat.mul_mod_left]
    · rw [decide_eq_false c, Bool.false_or]
      exact bne_iff_ne.mpr e
theorem mod_two (p i : Nat) : (p : Int) % ((2 : Int) + i) = ((p % (2 + i) : Nat) : Int) := by
  rw [Int.natCast_emod, Int.natCast_add]
  rfl
def spIsPrime : Sp := fun vs H Q _ => ∃ p : Nat, vs = [.int p] ∧ Q (.bl (Sn90.primeOk p)) H
theorem scIsPrime : FnScope ["p", "by"] ["p"] (defScope sIsPrime) := ⟨rfl, rfl, rfl, by decide +kernel, rfl, by decide +kernel, by decide +kernel⟩
theorem ok_is_prime {f : Addr} {fd : FuncData} (F : Fun K "is_prime" "is_prime" sIsPrime f fd) (mr : mg "range" = none) {t1 : Tok} (g1 : mg "BEYOND" = some (.int 65536 t1)) (C1 : Cl P w K mg base 1 "divides" ["p", "number"] spDivides) : FnOk P w K mg base CX0 2 f fd ["p"] spIsPrime := by
  obtain ⟨f1, d1, G1, m1, k1, b1⟩ := C1
  refine F.ok scIsPrime (fun vs H Q E h => ?_) (fun cdv A outer s H vs Q E hr h => ?_)
  · obtain ⟨p, rfl, _⟩ := h
    rfl
  · obtain ⟨p, rfl, q⟩ := h
    refine ⟨_, pss_cons (ps_if (PW.pt (pw_or (pt_cmpR op_lt (pv 0) pe_int (nomark _)) (pw_or1 (pt_cmpR op_ge (pv 0) (pe_glob (v := .int 65536) rfl g1 ⟨_, rfl⟩) (nomark _)))))
        (pss_one (ps_ret pe_bl)) pss_nil)
      (pss_cons (ps_for PassesOwn.never rfl (pi_range2 rfl mr (pa_cons pe_int (pa_cons pe_int pa_nil))) (pg_name (i := 1) scIsPrime.nd rfl (.inl rfl))
        (pss_one (ps_if (PW.pt (pw_and (pt_cmpR op_lt (pv 1) (pv 0) (nomark _)) (pw_and1 (pt_val (pe_call G1 hr rfl m1 k1 b1 .nil pass0 (pa_cons (pv 1) (pa_cons (pv 0) pa_nil)))))))
          (pss_one (ps_ret pe_bl)) pss_nil)))
      (pss_one (ps_ret pe_bl))), ?_⟩
    refine ⟨_, rfl, _, _, rfl, rfl, _, rfl, ?_⟩
    by_cases c1 : (p : Int) < 2
    · refine if_true_of (decide_eq_true c1) ?_
      refine iteT ?_
      rw [prime_small (by omega)] at q
      exact q
    · refine if_false_of (decide_eq_false c1) ?_
      refine ⟨_, rfl, _, _, rfl, rfl, _, rfl, ?_⟩
      by_cases c2 : (65536 : Int) ≤ p
      · refine if_true_of (decide_eq_true c2) ?_
        rw [prime_great (by omega)] at q
        exact q
      · refine if_false_of (decide_eq_false c2) ?_
        refine ⟨2, 256, rfl, ⟨by decide, by decide, by decide, by decide⟩, for_range (lo := 2) (n := ((256 : Int) - 2).toNat) (fun i σ H' => H' = H ∧ (∀ j : Nat, j < i → ¬ (2 + j < p ∧ p % (2 + j) = 0)) ∧ ∃ v, σ = [some (.int p), v]) ⟨rfl, fun j hj => absurd hj (Nat.not_lt_zero j), none, rfl⟩ ?_ ?_⟩
        · rintro i σ _ hi ⟨rfl, ha, v, rfl⟩
          refine ⟨_, rfl, _, rfl, _, _, rfl, rfl, _, rfl, ?_⟩
          by_cases c3 : (2 : Int) + i < p
          · refine if_true_of (decide_eq_true c3) ?_
            refine ⟨_, rfl, _, rfl, (2 : Int) + i, p, rfl, by omega, _, rfl, ?_⟩
            by_cases c4 : (p : Int) % ((2 : Int) + i) = 0
            · refine if_true_of (decide_eq_true c4) ?_
              rw [mod_two] at c4
              rw [prime_no (d := 2 + i) (by omega) (by omega) (by omega)] at q
              exact q
            · refine if_false_of (decide_eq_false c4) ?_
              refine ⟨rfl, fun j hj => ?_, _, rfl⟩
              by_cases c5 : j = i
              · subst c5
                rintro ⟨_, e⟩
                exact c4 (by rw [mod_two, e]; rfl)
              · exact ha j (by omega)
          · refine if_false_of (decide_eq_false c3) ?_
            refine if_false_of rfl ?_
            refine ⟨rfl, fun j hj => ?_, _, rfl⟩
            by_cases c5 : j = i
            · subst c5
              rintro ⟨e, _⟩
              exact c3 (by omega)
            · exact ha j (by omega)
        · rintro σ _ ⟨rfl, ha, v, rfl⟩
          rw [prime_yes (by omega) (by omega) (fun j hj => ha j hj)] at q
          exact q
/-! how often p divides -/
theorem often_zero (p : Nat) : ∀ k : Nat, Sn90.often p k 0 = 0
  | 0 => rfl
  | k + 1 => if_neg fun h => h.1 rfl
theorem often_fuel {p : Nat} (hp : 2 ≤ p) : ∀ (k j n : Nat), n ≤ k → n ≤ j → Sn90.often p k n = Sn90.often p j n
  | k, j, 0, _, _ => by rw [often_zero, often_zero]
  | 0, _, n + 1, h, _ => absurd h (by omega)
  | _ + 1, 0, n + 1, _, h => absurd h (by omega)
  | k + 1, j + 1, n + 1, h1, h2 => by
    have hd : (n + 1) / p ≤ n := by
      have h3 : (n + 1) / p ≤ (n + 1) / 2 := Nat.div_le_div_left hp (by decide)
      omega
    show (if n + 1 ≠ 0 ∧ (n + 1) % p = 0 then 1 + Sn90.often p k ((n + 1) / p) else 0) = (if n + 1 ≠ 0 ∧ (n + 1) % p = 0 then 1 + Sn90.often p j ((n + 1) / p) else 0)
    rw [often_fuel hp k j ((n + 1) / p) (by omega) (by omega)]
theorem abs_div {p : Nat} {y : Int} (hp : 2 ≤ p) (e : y % (p : Int) = 0) : (y / (p : Int)).natAbs = y.natAbs / p := by
  have h : (p : Int) * (y / (p : Int)) = y := Int.mul_ediv_cancel' (Int.dvd_of_emod_eq_zero e)
  generalize y / (p : Int) = x at h ⊢
  rw [← h, Int.natAbs_mul, Int.natAbs_natCast, Nat.mul_div_cancel_left _ (by omega)]
theorem abs_mod {p : Nat} {y : Int} : y % (p : Int) = 0 ↔ y.natAbs % p = 0 :=
  ⟨fun h => Nat.mod_eq_zero_of_dvd (Int.ofNat_dvd_left.mp (Int.dvd_of_emod_eq_zero h)), fun h => Int.emod_eq_zero_of_dvd (Int.ofNat_dvd_left.mpr (Nat.dvd_of_mod_eq_zero h))⟩
theorem height_more {p : Nat} {y : Int} (hp : 2 ≤ p) (h0 : y ≠ 0) (e : y % (p : Int) = 0) : Sn90.height p y = 1 + Sn90.height p (y / (p : Int)) := by
  unfold Sn90.height
  rw [abs_div hp e]
  have hm := abs_mod.mp e
  obtain ⟨k, hk⟩ : ∃ k, y.natAbs = k + 1 := ⟨y.natAbs - 1, by omega⟩
  rw [hk] at hm ⊢
  show (if k + 1 ≠ 0 ∧ (k + 1) % p = 0 then 1 + Sn90.often p k ((k + 1) / p) else 0) = _
  rw [if_pos ⟨by omega, hm⟩]
  have h3 : (k + 1) / p ≤ (k + 1) / 2 := Nat.div_le_div_left hp (by decide)
  rw [often_fuel hp k ((k + 1) / p) ((k + 1) / p) (by omega) (Nat.le_refl _)]
theorem height_none {p : Nat} {y : Int} (e : ¬ y % (p : Int) = 0) : Sn90.height p y = 0 := by
  unfold Sn90.height
  have hm : ¬ y.natAbs % p = 0 := fun h => e (abs_mod.mpr h)
  cases hk : y.natAbs with
  | zero => rfl
  | succ k =>
    rw [hk] at hm
    exact if_neg fun h => hm h.2
/-- the loop's measure: the number at the second name -/
def sizeAt : L2.St → Nat
  | [_, some (.int y), _] => y.natAbs
  | _ => 0
def spHeightOf : Sp := fun vs H Q _ => ∃ (p : Nat) (z : Int), vs = [.int p, .int z] ∧ (2 ≤ p ∧ p < 65536) ∧ z ≠ 0 ∧ Q (.int (Sn90.height p z : Nat)) H
theorem scHeightOf : FnScope ["p", "number", "found"] ["p", "number"] (defScope sHeightOf) := ⟨rfl, rfl, rfl, by decide +kernel, rfl, by decide +kernel, by decide +kernel⟩
theorem ok_height_of {f : Addr} {fd : FuncData} (F : Fun K "height_of" "height_of" sHeightOf f fd) (C1 : Cl P w K mg base 1 "divides" ["p", "number"] spDivides) : FnOk P w K mg base CX0 2 f fd ["p", "number"] spHeightOf := by
  obtain ⟨f1, d1, G1, m1, k1, b1⟩ := C1
  refine F.ok scHeightOf (fun vs H Q E h => ?_) (fun cdv A outer s H vs Q E hr h => ?_)
  · obtain ⟨p, z, rfl, _⟩ := h
    rfl
  · obtain ⟨p, z, rfl, ⟨hp, hb⟩, hz, q⟩ := h
    refine ⟨_, pss_cons (ps_set (i := 2) scHeightOf.nd rfl (.inl rfl) pe_int)
      (pss_cons (ps_while PassesOwn.never (pt_val (pe_call G1 hr rfl m1 k1 b1 .nil pass0 (pa_cons (pv 0) (pa_cons (pv 1) pa_nil))))
        (pss_cons (ps_set (i := 1) scHeightOf.nd rfl (.inl rfl) (pe_op op_fdiv (pv 1) (pv 0)))
          (pss_one (ps_set (i := 2) scHeightOf.nd rfl (.inl rfl) (pe_op op_add (pv 2) pe_int)))))
      (pss_one (ps_ret (pv 2)))), ?_⟩
    refine while_by (fun σ H' => H' = H ∧ ∃ (y : Int) (k : Nat), σ = [some (.int p), some (.int y), some (.int k)] ∧ y ≠ 0 ∧ Sn90.height p z = k + Sn90.height p y) (fun σ _ => sizeAt σ)
      ⟨rfl, z, 0, rfl, hz, (Nat.zero_add _).symm⟩ ?_ ?_
    · rintro σ _ ⟨rfl, y, k, rfl, hy, e⟩
      refine ⟨_, rfl, _, rfl, p, y, rfl, by omega, _, rfl, ?_⟩
      by_cases c : y % (p : Int) = 0
      · refine if_true_of (decide_eq_true c) ?_
        refine ⟨_, rfl, _, rfl, _, _, rfl, rfl, ⟨by omega, by omega⟩, ?_⟩
        refine ⟨_, rfl, _, _, rfl, rfl, ?_⟩
        have ha := abs_div hp c
        have hlt : y.natAbs / p < y.natAbs := Nat.div_lt_self (by omega) (by omega)
        have hne : y / (p : Int) ≠ 0 := by
          intro h0
          have h : (p : Int) * (y / (p : Int)) = y := Int.mul_ediv_cancel' (Int.dvd_of_emod_eq_zero c)
          rw [h0, Int.mul_zero] at h
          exact hy h.symm
        refine ⟨⟨rfl, y / (p : Int), k + 1, rfl, hne, ?_⟩, ?_⟩
        · rw [e, height_more hp hy c]
          omega
        · show (y / (p : Int)).natAbs < y.natAbs
          rw [ha]
          exact hlt
      · refine if_false_of (decide_eq_false c) ?_
        rw [height_none c] at e
        rw [e] at q
        exact ⟨_, rfl, q⟩
    · rintro σ H Q Q' m ⟨v, e, v2, e2, p, n, e3, h, c, e4, q⟩
      exact ⟨v, e, v2, e2, p, n, e3, h, c, e4, m _ _ q⟩
/-! points: how they lie in the heap -/
structure Pt where
  a : Addr
  i : Nat
  h : Nat
def Pt.v (x : Pt) : V := .ref x.a
def Pt.ih (x : Pt) : Nat × Nat := (x.i, x.h)
def ptF (i h : Nat) : List (Str × V) := [("place", .int i), ("height", .int h)]
def PtAt (C : Addr) (H : Hp) (x : Pt) : Prop := ∃ dx, H x.a = some (.ins C dx (ptF x.i x.h))
theorem PtAt.same {C : Addr} {H H' : Hp} {x : Pt} (s : Same H H') (h : PtAt C H x) : PtAt C H' x := let ⟨dx, e⟩ := h; ⟨dx, s _ _ e⟩
theorem lk_here {k : Str} {v : V} {r : List (Str × V)} : List.lookup k ((k, v) :: r) = some v := by
  have e : (k == k) = true := beq_self_eq_true k
  simp only [List.lookup, e]
theorem lk_past {k g : Str} {v : V} {r : List (Str × V)} (h : (k == g) = false) : List.lookup k ((g, v) :: r) = List.lookup k r := by
  simp only [List.lookup, h]
theorem put_here {f : Str} {v x : V} {r : List (Str × V)} : putF f v ((f, x) :: r) = (f, v) :: r := if_pos rfl
theorem put_past {f g : Str} {v x : V} {r : List (Str × V)} (h : ¬ g = f) : putF f v ((g, x) :: r) = (g, x) :: putF f v r := if_neg h
theorem ptF_place (i h : Nat) : (ptF i h).lookup ("place" : Str) = some (.int i) := lk_here
theorem ptF_height (i h : Nat) : (ptF i h).lookup ("height" : Str) = some (.int h) := (lk_past (by decide +kernel)).trans lk_here
theorem ptF_new (i h : Nat) : putF "height" (.int h) (putF "place" (.int i) []) = ptF i h := (put_past (by decide +kernel)).trans rfl
structure PtTxt (K : PySem.W.Frag) (mg : Str → Option Value) (C : Addr) : Prop where
  cl : Cls K C
  nP : NoAttr K C "place"
  nH : NoAttr K C "height"
  gC : mg "Point" = some (.ref C)
def spInit (C : Addr) : Sp := fun vs H Q _ => ∃ (p dx : Addr) (i h : Nat), vs = [.ref p, .int i, .int h] ∧ H p = some (.ins C dx []) ∧
  ∀ H' : Hp, PtAt C H' ⟨p, i, h⟩ → (∀ b o, H b = some o → b ≠ p → H' b = some o) → Q .non H'
theorem scInit : FnScope ["self", "place", "height"] ["self", "place", "height"] (defScope sInit) := ⟨rfl, rfl, rfl, by decide +kernel, rfl, by decide +kernel, by decide +kernel⟩
theorem ok_init {C f : Addr} {fd : FuncData} (F : Fun K "__init__" "Point.__init__" sInit f fd) (T : PtTxt K mg C) : FnOk P w K mg base CX0 1 f fd ["self", "place", "height"] (spInit C) := by
  refine F.ok scInit (fun vs H Q E h => ?_) (fun cdv A outer s H vs Q E hr h => ?_)
  · obtain ⟨p, dx, i, h, rfl, _⟩ := h
    rfl
  · obtain ⟨p, dx, i, h, rfl, hp, k⟩ := h
    refine ⟨_, pss_cons (ps_fld (pv 0) (pv 1) rfl) (pss_one (ps_fld (pv 0) (pv 2) rfl)), ?_⟩
    refine ⟨_, rfl, _, rfl, p, C, dx, [], rfl, hp, T.cl, T.nP, (by show 0 < 1000; decide), ?_⟩
    refine ⟨_, rfl, _, rfl, p, C, dx, _, rfl, upd_same, T.cl, T.nH, (by show 1 < 1000; decide), ?_⟩
    exact k _ ⟨dx, Eq.trans upd_same (congrArg (fun q => some (HO.ins C dx q)) (ptF_new i h))⟩ fun b o e hb => by
      rw [upd_ne hb, upd_ne hb]
      exact e
structure PtMk (P : Program) (w : World) (K : PySem.W.Frag) (mg : Str → Option Value) (base : Heap) (C : Addr) : Prop where
  T : PtTxt K mg C
  ex : ∃ (f : Addr) (fd : FuncData), Mk K C f ∧ FnOk P w K mg base CX0 1 f fd ["self", "place", "height"] (spInit C) ∧ Binds K fd ["self", "place", "height"] []
/-! a comprehension over enumerate(a list) -/
abbrev LcTurn (g : TG) (tt : TT) (te : TE) (vs : List Nat) (σ : L2.St) (D : Addr) (Nx : Hp → Prop) (x : V) (H : Hp) : Prop :=
  g x (wipe σ vs) H fun σ2 H2 => wipe σ2 vs = wipe σ vs ∧ tt σ2 H2 fun b H3 => if b = true then te σ2 H3 fun y H4 => ∃ acc, H4 D = some (.lst acc) ∧ acc.length < sizeLine ∧ Nx (upd H4 D (.lst (acc ++ [y]))) else Nx H3
theorem lc_enum {a : Addr} {xs : List V} {g : TG} {tt : TT} {te : TE} {vs : List Nat} {σ : L2.St} {H1 : Hp} {D : Addr} {Qd : Hp → Prop} (Pv : Nat → Hp → Prop)
    (h0 : Pv 0 (upd H1 D (.lst [])))
    (hl : ∀ i H, Pv i H → SqL K H a xs)
    (hs : ∀ i x T H, xs[i]? = some x → Pv i H → H T = none → LcTurn g tt te vs σ D (Pv (i + 1)) (.ref T) (upd H T (.tup [.int (i : Nat), x])))
    (hd : ∀ H, Pv xs.length H → Qd H) :
    ∃ W : Nat → Nat → Hp → Prop, (∃ m, W 0 m (upd H1 D (.lst []))) ∧ ∀ i m H, W i m H → ((Ite K a).stop i H ∧ Qd H) ∨
      ((Ite K a).go i H ∧ ∃ Nx : Hp → Prop, (∀ H', Nx H' → ∃ m', m' < m ∧ W (i + 1) m' H') ∧ ∀ x H', (Ite K a).yld i H x H' → LcTurn g tt te vs σ D Nx x H') := by
  refine ⟨fun i m H => (i ≤ xs.length ∧ m = xs.length - i) ∧ Pv i H, ⟨_, ⟨Nat.zero_le _, rfl⟩, h0⟩, ?_⟩
  rintro i m H ⟨⟨hi, rfl⟩, p⟩
  have q := hl i H p
  by_cases c : i = xs.length
  · subst c
    exact .inl ⟨⟨xs, q, Nat.le_refl _⟩, hd H p⟩
  · have lt : i < xs.length := by omega
    refine .inr ⟨⟨xs, _, q, List.getElem?_eq_getElem lt⟩, Pv (i + 1), fun H' p' => ⟨_, by omega, ⟨lt, rfl⟩, p'⟩, ?_⟩
    rintro _ _ ⟨T, x, rfl, hT, rfl, hx⟩
    exact hs i x T H (hx xs q) p hT
/-! points_of -/
def ptsOf (p : Nat) (f : List Int) (m : Nat) : List (Nat × Nat) := ((List.range m).filter fun k => Sn90.coef f k != 0).map fun k => (k, Sn90.height p (Sn90.coef f k))
theorem ptsOf_yes {p : Nat} {f : List Int} {m : Nat} (h : Sn90.coef f m ≠ 0) : ptsOf p f (m + 1) = ptsOf p f m ++ [(m, Sn90.height p (Sn90.coef f m))] := by
  unfold ptsOf
  rw [List.range_succ, List.filter_append, List.map_append]
  have e : ([m] : List Nat).filter (fun k => Sn90.coef f k != 0) = [m] := by
    rw [List.filter_cons_of_pos (by exact bne_iff_ne.mpr h)]
    rfl
  rw [e]
  rfl
theorem ptsOf_no {p : Nat} {f : List Int} {m : Nat} (h : Sn90.coef f m = 0) : ptsOf p f (m + 1) = ptsOf p f m := by
  unfold ptsOf
  rw [List.range_succ, List.filter_append, List.map_append]
  have e : ([m] : List Nat).filter (fun k => Sn90.coef f k != 0) = [] := by
    rw [List.filter_cons_of_neg (by rw [h]; decide)]
    rfl
  rw [e]
  exact List.append_nil _
def spPointsOf (C : Addr) (K : PySem.W.Frag) : Sp := fun vs H Q _ => ∃ (p : Nat) (a : Addr) (f : List Int), vs = [.int p, .ref a] ∧ SqL K H a (f.map V.int) ∧ (2 ≤ p ∧ p < 65536) ∧ f.length ≤ 25 ∧
  ∀ (H' : Hp) (l : Addr) (L : List Pt), Same H H' → H l = none → H' l = some (.lst (L.map Pt.v)) → (∀ x, x ∈ L → PtAt C H' x) → L.map Pt.ih = ptsOf p f f.length → Q (.ref l) H'
theorem scPointsOf : FnScope ["p", "f", "place", "number"] ["p", "f"] (defScope sPointsOf) := ⟨rfl, rfl, rfl, by decide +kernel, rfl, by decide +kernel, by decide +kernel⟩
theorem ok_points_of {C f : Addr} {fd : FuncData} (F : Fun K "points_of" "points_of" sPointsOf f fd) (M : PtMk P w K mg base C) (me : mg "enumerate" = none) (C1 : Cl P w K mg base 2 "height_of" ["p", "number"] spHeightOf) :
    FnOk P w K mg base CX0 3 f fd ["p", "f"] (spPointsOf C K) := by
  obtain ⟨f1, d1, G1, m1, k1, b1⟩ := C1
  obtain ⟨T, f0, d0, M0, G0, b0⟩ := M
  refine F.ok scPointsOf (fun vs H Q E h => ?_) (fun cdv A outer s H vs Q E hr h => ?_)
  · obtain ⟨p, a, f, rfl, _⟩ := h
    rfl
  · obtain ⟨p, a, f, rfl, hS, hp, hf, q⟩ := h
    refine ⟨_, pss_one (ps_ret (pe_lc (own := [("place", 2), ("number", 3)]) (g := gTup K 2 (gCons (gName 2) (gCons (gName 3) gNil))) (tt := tTest (tOp rNe (tVar 3) (tC (.int 0)))) rfl scPointsOf.nd (pi_enum rfl me (pa_cons (pv 1) pa_nil))
      (blkOk_by (N := ["p", "f", "place", "number"]) (sc := defScope sPointsOf) (by decide +kernel))
      (fun _ _ _ _ _ => pg_tup rfl (pgs_cons (pg_name (i := 2) scPointsOf.nd rfl (Or.inl rfl)) (pgs_cons (pg_name (i := 3) scPointsOf.nd rfl (Or.inl rfl)) pgs_nil)))
      (fun _ _ _ _ _ => pts_one (pt_cmpR op_ne (pv 3) pe_int (nomark _)))
      (fun _ _ _ _ _ => pe_make M0 G0 hr rfl T.gC b0 .nil pass0 (pa_cons (pv 2) (pa_cons (pe_call G1 hr rfl m1 k1 b1 .nil pass0 (pa_cons (pv 0) (pa_cons (pv 3) pa_nil))) pa_nil))))), ?_⟩
    refine ⟨_, rfl, a, f.map V.int, rfl, hS, fun D hD => ?_⟩
    refine lc_enum (K := K) (a := a) (xs := f.map V.int) (fun i H' => Same H H' ∧ ∃ L : List Pt, H' D = some (.lst (L.map Pt.v)) ∧ (∀ x, x ∈ L → PtAt C H' x) ∧ L.map Pt.ih = ptsOf p f i ∧ L.length ≤ i)
      ⟨same_upd hD, [], upd_same, (by intro x hx; cases hx), rfl, Nat.le_refl _⟩ (fun i H' p => p.1.seq hS) ?_ ?_
    · rintro i x t H' hi ⟨s1, L, l1, at1, e1, n1⟩ ht
      obtain ⟨z, hz, rfl⟩ : ∃ z, f[i]? = some z ∧ x = V.int z := by
        rw [List.getElem?_map] at hi
        cases e : f[i]? with
        | none =>
          rw [e] at hi
          cases hi
        | some z =>
          rw [e] at hi
          exact ⟨z, rfl, (Option.some.inj hi).symm⟩
      have hc : Sn90.coef f i = z := by
        unfold Sn90.coef
        rw [List.getD_eq_getElem?_getD, hz]
        rfl
      have hif : i < f.length := (List.getElem?_eq_some_iff.mp hz).1
      have s2 : Same H' (upd H' t (.tup [.int (i : Nat), .int z])) := same_upd ht
      refine ⟨t, _, rfl, SqT.of upd_same, rfl, _, _, rfl, _, _, rfl, rfl, rfl, _, rfl, rfl, _, rfl, ?_⟩
      by_cases c : z = 0
      · subst c
        refine if_false_of rfl ?_
        refine ⟨s1.trans s2, L, s2 _ _ l1, fun x hx => (at1 x hx).same s2, ?_, by omega⟩
        rw [ptsOf_no hc]
        exact e1
      · refine if_true_of (by rw [dec_int, decide_eq_false c]; rfl) ?_
        refine ⟨_, rfl, _, rfl, _, rfl, p, z, rfl, hp, c, ?_⟩
        intro y dy ny nd ne
        refine ⟨y, dy, i, Sn90.height p z, rfl, upd_same, fun H3 J kp => ⟨rfl, ?_⟩⟩
        have s3 : Same _ H3 := Same.made ny nd kp
        have l3 := s3 _ _ (s2 _ _ l1)
        refine ⟨_, l3, by rw [List.length_map]; exact small1000 (by omega), ?_, L ++ [⟨y, i, Sn90.height p z⟩], ?_, ?_, ?_, ?_⟩
        · intro b o e
          rw [upd_ne (ne_of_none e hD)]
          exact s3 _ _ (s2 _ _ (s1 _ _ e))
        · rw [upd_same, List.map_append]
          rfl
        · intro x hx
          have hx3 : PtAt C H3 x := by
            rcases List.mem_append.mp hx with h | h
            · exact ((at1 x h).same s2).same s3
            · rw [List.mem_singleton.mp h]
              exact J
          obtain ⟨dx, e⟩ := hx3
          exact ⟨dx, by rw [upd_ne (ne_of e l3 (by intro z; cases z))]; exact e⟩
        · rw [List.map_append, e1, ptsOf_yes (by rw [hc]; exact c), hc]
          rfl
        · rw [List.length_append]
          show L.length + 1 ≤ i + 1
          omega
    · rintro H' ⟨s1, L, l1, at1, e1, _⟩
      rw [List.length_map] at e1
      exact q H' D L s1 hD l1 at1 e1
/-! run_of, rise_of, is_no_steeper, next_corner, points_behind, corners_of -/
theorem ih_eq {x : Pt} {i h : Nat} (e : x.ih = (i, h)) : x.i = i ∧ x.h = h := ⟨congrArg Prod.fst e, congrArg Prod.snd e⟩
def spRunOf (C : Addr) : Sp := fun vs H Q _ => ∃ s e : Pt, vs = [s.v, e.v] ∧ PtAt C H s ∧ PtAt C H e ∧ Q (.int ((e.i : Int) - s.i)) H
def spRiseOf (C : Addr) : Sp := fun vs H Q _ => ∃ s e : Pt, vs = [s.v, e.v] ∧ PtAt C H s ∧ PtAt C H e ∧ Q (.int ((e.h : Int) - s.h)) H
theorem scRunOf : FnScope ["start", "end"] ["start", "end"] (defScope sRunOf) := ⟨rfl, rfl, rfl, by decide +kernel, rfl, by decide +kernel, by decide +kernel⟩
theorem scRiseOf : FnScope ["start", "end"] ["start", "end"] (defScope sRiseOf) := ⟨rfl, rfl, rfl, by decide +kernel, rfl, by decide +kernel, by decide +kernel⟩
theorem ok_run_of {C f : Addr} {fd : FuncData} (F : Fun K "run_of" "run_of" sRunOf f fd) (T : PtTxt K mg C) : FnOk P w K mg base CX0 1 f fd ["start", "end"] (spRunOf C) := by
  refine F.ok scRunOf (fun vs H Q E h => ?_) (fun cdv A outer s H vs Q E hr h => ?_)
  · obtain ⟨a, b, rfl, _⟩ := h
    rfl
  · obtain ⟨a, b, rfl, ⟨da, ha⟩, ⟨db, hb⟩, q⟩ := h
    refine ⟨_, pss_one (ps_ret (pe_op op_sub (pe_fld (pv 1) rfl) (pe_fld (pv 0) rfl))), ?_⟩
    exact ⟨_, rfl, b.a, C, db, _, _, rfl, hb, T.cl, T.nP, ptF_place _ _, _, rfl, a.a, C, da, _, _, rfl, ha, T.cl, T.nP, ptF_place _ _, _, _, rfl, rfl, q⟩
theorem ok_rise_of {C f : Addr} {fd : FuncData} (F : Fun K "rise_of" "rise_of" sRiseOf f fd) (T : PtTxt K mg C) : FnOk P w K mg base CX0 1 f fd ["start", "end"] (spRiseOf C) := by
  refine F.ok scRiseOf (fun vs H Q E h => ?_) (fun cdv A outer s H vs Q E hr h => ?_)
  · obtain ⟨a, b, rfl, _⟩ := h
    rfl
  · obtain ⟨a, b, rfl, ⟨da, ha⟩, ⟨db, hb⟩, q⟩ := h
    refine ⟨_, pss_one (ps_ret (pe_op op_sub (pe_fld (pv 1) rfl) (pe_fld (pv 0) rfl))), ?_⟩
    exact ⟨_, rfl, b.a, C, db, _, _, rfl, hb, T.cl, T.nH, ptF_height _ _, _, rfl, a.a, C, da, _, _, rfl, ha, T.cl, T.nH, ptF_height _ _, _, _, rfl, rfl, q⟩
/-- from s the way to one rises no more steeply than to other -/
def steep (s one other : Pt) : Bool := decide (((one.h : Int) - s.h) * ((other.i : Int) - s.i) ≤ ((other.h : Int) - s.h) * ((one.i : Int) - s.i))
def spSteep (C : Addr) : Sp := fun vs H Q _ => ∃ s x y : Pt, vs = [s.v, x.v, y.v] ∧ (PtAt C H s ∧ PtAt C H x ∧ PtAt C H y) ∧ (s.i ≤ 1000 ∧ x.i ≤ 1000 ∧ y.i ≤ 1000) ∧ Q (.bl (steep s x y)) H
theorem scSteep : FnScope ["start", "one", "other"] ["start", "one", "other"] (defScope sSteep) := ⟨rfl, rfl, rfl, by decide +kernel, rfl, by decide +kernel, by decide +kernel⟩
theorem ok_steep {C f : Addr} {fd : FuncData} (F : Fun K "is_no_steeper" "is_no_steeper" sSteep f fd) (C1 : Cl P w K mg base 1 "run_of" ["start", "end"] (spRunOf C)) (C2 : Cl P w K mg base 1 "rise_of" ["start", "end"] (spRiseOf C)) :
    FnOk P w K mg base CX0 2 f fd ["start", "one", "other"] (spSteep C) := by
  obtain ⟨f1, d1, G1, m1, k1, b1⟩ := C1
  obtain ⟨f2, d2, G2, m2, k2, b2⟩ := C2
  refine F.ok scSteep (fun vs H Q E h => ?_) (fun cdv A outer s H vs Q E hr h => ?_)
  · obtain ⟨a, b, c, rfl, _⟩ := h
    rfl
  · obtain ⟨a, x, y, rfl, ⟨ha, hx, hy⟩, ⟨na, nx, ny⟩, q⟩ := h
    refine ⟨_, pss_one (ps_ret (pe_cmpR op_le (pe_op op_mul (pe_call G2 hr rfl m2 k2 b2 .nil pass0 (pa_cons (pv 0) (pa_cons (pv 1) pa_nil))) (pe_call G1 hr rfl m1 k1 b1 .nil pass0 (pa_cons (pv 0) (pa_cons (pv 2) pa_nil))))
      (pe_op op_mul (pe_call G2 hr rfl m2 k2 b2 .nil pass0 (pa_cons (pv 0) (pa_cons (pv 2) pa_nil))) (pe_call G1 hr rfl m1 k1 b1 .nil pass0 (pa_cons (pv 0) (pa_cons (pv 1) pa_nil)))) (nomark _))), ?_⟩
    refine ⟨_, rfl, _, rfl, a, x, rfl, ha, hx, _, rfl, _, rfl, a, y, rfl, ha, hy, _, _, rfl, rfl, .inr ⟨by omega, by omega⟩, ?_⟩
    refine ⟨_, rfl, _, rfl, a, y, rfl, ha, hy, _, rfl, _, rfl, a, x, rfl, ha, hx, _, _, rfl, rfl, .inr ⟨by omega, by omega⟩, ?_⟩
    exact ⟨_, _, rfl, rfl, q⟩
/-- the next corner behind s among x and r -/
def nextC (s x : Pt) (r : List Pt) : Pt := r.foldl (fun b k => if steep s k b = true then k else b) x
theorem nextC_snoc (s x y : Pt) (r : List Pt) : nextC s x (r ++ [y]) = if steep s y (nextC s x r) = true then y else nextC s x r := by
  unfold nextC
  rw [List.foldl_append]
  rfl
theorem nextC_mem (s : Pt) : ∀ (r : List Pt) (x : Pt), nextC s x r ∈ x :: r
  | [], x => List.mem_singleton.mpr rfl
  | y :: r, x => by
    have ih := nextC_mem s r (if steep s y x = true then y else x)
    show nextC s (if steep s y x = true then y else x) r ∈ x :: y :: r
    rcases List.mem_cons.mp ih with e | e
    · rw [e]
      by_cases c : steep s y x = true
      · rw [if_pos c]
        exact List.mem_cons_of_mem _ List.mem_cons_self
      · rw [if_neg c]
        exact List.mem_cons_self
    · exact List.mem_cons_of_mem _ (List.mem_cons_of_mem _ e)
theorem cut_one (v : V) (vs : List V) : cutV (v :: vs) (some 1) none = vs := by
  unfold cutV
  have e : HT.sIx (v :: vs).length 0 (some 1) = 1 := by
    have := HT.sIx_nat (v :: vs).length 0 1
    rw [show ((1 : Nat) : Int) = 1 by rfl] at this
    rw [this, List.length_cons]
    omega
  rw [e, HT.sIx_none]
  show List.take _ vs = vs
  rw [List.take_of_length_le]
  rw [List.length_cons]
  omega
theorem take_snoc {α : Type} {l : List α} {i : Nat} {x : α} (h : l[i]? = some x) : l.take (i + 1) = l.take i ++ [x] := by
  rw [List.take_add_one, h]
  rfl
theorem map_get {α β : Type} {g : α → β} {l : List α} {i : Nat} {y : β} (h : (l.map g)[i]? = some y) : ∃ x, l[i]? = some x ∧ y = g x := by
  rw [List.getElem?_map] at h
  cases e : l[i]? with
  | none =>
    rw [e] at h
    cases h
  | some z =>
    rw [e] at h
    exact ⟨z, rfl, (Option.some.inj h).symm⟩
def spNext (C : Addr) (K : PySem.W.Frag) : Sp := fun vs H Q _ => ∃ (s x : Pt) (r : List Pt) (l : Addr), vs = [s.v, .ref l] ∧ SqL K H l ((x :: r).map Pt.v) ∧ PtAt C H s ∧ (∀ y, y ∈ x :: r → PtAt C H y) ∧ s.i ≤ 1000 ∧ (∀ y, y ∈ x :: r → y.i ≤ 1000) ∧
  ∀ H' : Hp, Same H H' → Q (nextC s x r).v H'
theorem scNext : FnScope ["start", "points", "found", "point"] ["start", "points"] (defScope sNext) := ⟨rfl, rfl, rfl, by decide +kernel, rfl, by decide +kernel, by decide +kernel⟩
theorem ok_next {C f : Addr} {fd : FuncData} (F : Fun K "next_corner" "next_corner" sNext f fd) (C1 : Cl P w K mg base 2 "is_no_steeper" ["start", "one", "other"] (spSteep C)) : FnOk P w K mg base CX0 3 f fd ["start", "points"] (spNext C K) := by
  obtain ⟨f1, d1, G1, m1, k1, b1⟩ := C1
  refine F.ok scNext (fun vs H Q E h => ?_) (fun cdv A outer s H vs Q E hr h => ?_)
  · obtain ⟨a, x, r, l, rfl, _⟩ := h
    rfl
  · obtain ⟨a, x, r, l, rfl, hS, ha, hat, na, hn, q⟩ := h
    refine ⟨_, pss_cons (ps_set (i := 2) scNext.nd rfl (.inl rfl) (pe_ix ix_list (pv 1) pe_int (fun _ _ => rfl)))
      (pss_cons (ps_for PassesOwn.never rfl (pi_list (pe_slice sl_list (pv 1) (po_some pe_int) po_none)) (pg_name (i := 3) scNext.nd rfl (.inl rfl))
        (pss_one (ps_if (pt_val (pe_call G1 hr rfl m1 k1 b1 .nil pass0 (pa_cons (pv 0) (pa_cons (pv 3) (pa_cons (pv 2) pa_nil)))))
          (pss_one (ps_set (i := 2) scNext.nd rfl (.inl rfl) (pv 3))) pss_nil)))
      (pss_one (ps_ret (pv 2)))), ?_⟩
    refine ⟨_, rfl, l, _, 0, x.v, rfl, rfl, hS, at_of (j := 0) rfl rfl, ?_⟩
    refine ⟨_, rfl, 1, rfl, l, _, rfl, hS, fun p hp => ?_⟩
    have cut : cutV ((x :: r).map Pt.v) (some 1) none = r.map Pt.v := cut_one x.v (r.map Pt.v)
    rw [cut]
    have s1 : Same H (upd H p (.lst (r.map Pt.v))) := same_upd hp
    generalize hH1 : upd H p (.lst (r.map Pt.v)) = H1 at s1
    have hS1 : H1 p = some (.lst (r.map Pt.v)) := by
      rw [← hH1]
      exact upd_same
    refine ⟨p, rfl, ⟨_, SqL.of hS1⟩, for_list (K := K) (a := p) (xs := r.map Pt.v) (fun i σ H' => H' = H1 ∧ ∃ u, σ = [some a.v, some (.ref l), some (nextC a x (r.take i)).v, u])
      ⟨rfl, none, rfl⟩ (fun i σ H' _ h => by rw [h.1]; exact SqL.of hS1) ?_ ?_⟩
    · rintro i y σ _ hi ⟨rfl, u, rfl⟩
      obtain ⟨z, hz, rfl⟩ := map_get hi
      have hzr : z ∈ x :: r := List.mem_cons_of_mem _ (List.mem_of_getElem? hz)
      have hb : nextC a x (r.take i) ∈ x :: r := by
        rcases List.mem_cons.mp (nextC_mem a (r.take i) x) with e | e
        · rw [e]
          exact List.mem_cons_self
        · exact List.mem_cons_of_mem _ (List.mem_of_mem_take e)
      have ts := take_snoc hz
      refine ⟨_, rfl, _, rfl, _, rfl, a, z, nextC a x (r.take i), rfl, ⟨ha.same s1, (hat _ hzr).same s1, (hat _ hb).same s1⟩, ⟨na, hn _ hzr, hn _ hb⟩, _, rfl, ?_⟩
      cases c : steep a z (nextC a x (r.take i)) with
      | true =>
        refine if_true_of rfl ?_
        refine ⟨_, rfl, rfl, some z.v, ?_⟩
        rw [ts, nextC_snoc, if_pos c]
        rfl
      | false =>
        refine if_false_of rfl ?_
        refine ⟨rfl, some z.v, ?_⟩
        rw [ts, nextC_snoc, c, if_neg Bool.false_ne_true]
        rfl
    · rintro σ _ ⟨rfl, u, rfl⟩
      rw [List.length_map, List.take_length]
      exact ⟨_, rfl, q _ s1⟩
/-- the points of L behind s -/
def behind (s : Pt) (L : List Pt) : List Pt := L.filter fun y => decide (s.i < y.i)
def spBehind (C : Addr) (K : PySem.W.Frag) : Sp := fun vs H Q _ => ∃ (l : Addr) (L : List Pt) (s : Pt), vs = [.ref l, s.v] ∧ SqL K H l (L.map Pt.v) ∧ (∀ y, y ∈ L → PtAt C H y) ∧ PtAt C H s ∧ L.length ≤ 100 ∧
  ∀ (H' : Hp) (q : Addr), Same H H' → H q = none → H' q = some (.lst ((behind s L).map Pt.v)) → Q (.ref q) H'
theorem scBehind : FnScope ["points", "start", "point"] ["points", "start"] (defScope sBehind) := ⟨rfl, rfl, rfl, by decide +kernel, rfl, by decide +kernel, by decide +kernel⟩
theorem ok_behind {C f : Addr} {fd : FuncData} (F : Fun K "points_behind" "points_behind" sBehind f fd) (T : PtTxt K mg C) : FnOk P w K mg base CX0 1 f fd ["points", "start"] (spBehind C K) := by
  refine F.ok scBehind (fun vs H Q E h => ?_) (fun cdv A outer s H vs Q E hr h => ?_)
  · obtain ⟨l, L, a, rfl, _⟩ := h
    rfl
  · obtain ⟨l, L, a, rfl, hS, hat, ha, hlen, q⟩ := h
    refine ⟨_, pss_one (ps_ret (pe_lc (own := [("point", 2)]) (g := gName 2) (tt := tTest (tOp (rI0 fun i j => .bl (decide (j < i))) (tFld K (tVar 2) "place") (tFld K (tVar 1) "place"))) (te := tVar 2) rfl scBehind.nd (pi_list (pv 0))
      (blkOk_by (N := ["points", "start", "point"]) (sc := defScope sBehind) (by decide +kernel))
      (fun _ _ _ _ _ => pg_name (i := 2) scBehind.nd rfl (Or.inl rfl))
      (fun _ _ _ _ _ => pts_one (pt_cmpR op_gt (pe_fld (pv 2) rfl) (pe_fld (pv 1) rfl) (nomark _)))
      (fun _ _ _ _ _ => pv 2))), ?_⟩
    refine ⟨_, rfl, l, rfl, ⟨_, hS⟩, fun D hD => ?_⟩
    refine lc_list (K := K) (a := l) (xs := L.map Pt.v) (fun i H' => Same H H' ∧ H' D = some (.lst ((behind a (L.take i)).map Pt.v))) ⟨same_upd hD, upd_same⟩ (fun i H' _ h => h.1.seq hS) ?_ ?_
    · rintro i y H' hi ⟨s1, l1⟩
      obtain ⟨z, hz, rfl⟩ := map_get hi
      obtain ⟨dz, ez⟩ := (hat _ (List.mem_of_getElem? hz)).same s1
      obtain ⟨da, ea⟩ := ha.same s1
      have ts := take_snoc hz
      refine ⟨rfl, _, rfl, z.a, C, dz, _, _, rfl, ez, T.cl, T.nP, ptF_place _ _, _, rfl, a.a, C, da, _, _, rfl, ea, T.cl, T.nP, ptF_place _ _, _, _, rfl, rfl, _, rfl, ?_⟩
      by_cases c : a.i < z.i
      · refine if_true_of (decide_eq_true (by omega)) ?_
        refine ⟨_, rfl, _, l1, ?_, ?_, ?_⟩
        · rw [List.length_map]
          refine small1000 (Nat.le_trans (List.length_filter_le _ _) ?_)
          rw [List.length_take]
          omega
        · intro b o e
          rw [upd_ne (ne_of_none e hD)]
          exact s1 _ _ e
        · rw [upd_same, ts]
          unfold behind
          rw [List.filter_append, List.map_append]
          have e : ([z] : List Pt).filter (fun y => decide (a.i < y.i)) = [z] := by
            rw [List.filter_cons_of_pos (by exact decide_eq_true c)]
            rfl
          rw [e]
          rfl
      · refine if_false_of (decide_eq_false (by omega)) ?_
        refine ⟨s1, ?_⟩
        rw [l1, ts]
        unfold behind
        rw [List.filter_append, List.map_append]
        have e : ([z] : List Pt).filter (fun y => decide (a.i < y.i)) = [] := by
          rw [List.filter_cons_of_neg (by rw [decide_eq_false c]; decide)]
          rfl
        rw [e, List.map_nil, List.append_nil]
    · rintro H' ⟨s1, l1⟩
      rw [List.length_map, List.take_length] at l1
      exact q H' D s1 hD l1
/-- the corners behind s: of the points left; the first number only sees to an end -/
def cornersL (s : Pt) : Nat → List Pt → List Pt
  | 0, _ => []
  | _ + 1, [] => []
  | k + 1, x :: r => nextC s x r :: cornersL (nextC s x r) k (behind (nextC s x r) (x :: r))
theorem cornersL_nil (s : Pt) : ∀ k : Nat, cornersL s k [] = []
  | 0 => rfl
  | _ + 1 => rfl
theorem behind_len {s : Pt} {L : List Pt} (h : s ∈ L) : (behind s L).length < L.length := by
  unfold behind
  rw [← List.countP_eq_length_filter]
  have h1 := List.length_eq_countP_add_countP (fun y : Pt => decide (s.i < y.i)) (l := L)
  have h2 : 0 < List.countP (fun y => decide ¬ (decide (s.i < y.i)) = true) L := List.countP_pos_iff.mpr ⟨s, h, by simp⟩
  omega
theorem behind_sub {s y : Pt} {L : List Pt} (h : y ∈ behind s L) : y ∈ L := (List.mem_filter.mp h).1
theorem cornersL_mem : ∀ (k : Nat) (s y : Pt) (L : List Pt), y ∈ cornersL s k L → y ∈ L
  | 0, _, _, _, h => by cases h
  | _ + 1, _, _, [], h => by cases h
  | k + 1, s, y, x :: r, h => by
    rcases List.mem_cons.mp h with e | e
    · rw [e]
      exact nextC_mem s r x
    · exact behind_sub (cornersL_mem k _ y _ e)
/-- the loop's measure: how long the list at the third name is -/
def leftAt (σ : L2.St) (H : Hp) : Nat := match (σ[2]? : Option (Option V)) with
  | some (some (.ref a)) => (match H a with
    | some (.lst xs) => xs.length
    | _ => 0)
  | _ => 0
theorem leftAt_is {x y z : Option V} {a : Addr} {xs : List V} {H : Hp} (h : H a = some (.lst xs)) : leftAt [x, y, some (.ref a), z] H = xs.length := by
  show (match H a with
    | some (.lst xs) => xs.length
    | _ => 0) = _
  rw [h]
def spCornersOf (C : Addr) (K : PySem.W.Frag) : Sp := fun vs H Q _ => ∃ (l : Addr) (x : Pt) (r : List Pt), vs = [.ref l] ∧ SqL K H l ((x :: r).map Pt.v) ∧ (∀ y, y ∈ x :: r → PtAt C H y) ∧ (∀ y, y ∈ x :: r → y.i ≤ 1000) ∧ r.length ≤ 100 ∧
  ∀ (H' : Hp) (q : Addr), Same H H' → H q = none → H' q = some (.lst ((x :: cornersL x r.length r).map Pt.v)) → Q (.ref q) H'
theorem scCornersOf : FnScope ["points", "found", "left", "corner"] ["points"] (defScope sCornersOf) := ⟨rfl, rfl, rfl, by decide +kernel, rfl, by decide +kernel, by decide +kernel⟩
theorem ok_corners_of {C f : Addr} {fd : FuncData} (F : Fun K "corners_of" "corners_of" sCornersOf f fd) (ml : mg "len" = none) (C1 : Cl P w K mg base 3 "next_corner" ["start", "points"] (spNext C K)) (C2 : Cl P w K mg base 1 "points_behind" ["points", "start"] (spBehind C K)) :
    FnOk P w K mg base CX0 4 f fd ["points"] (spCornersOf C K) := by
  obtain ⟨f1, d1, G1, m1, k1, b1⟩ := C1
  obtain ⟨f2, d2, G2, m2, k2, b2⟩ := C2
  refine F.ok scCornersOf (fun vs H Q E h => ?_) (fun cdv A outer s H vs Q E hr h => ?_)
  · obtain ⟨l, x, r, rfl, _⟩ := h
    rfl
  · obtain ⟨l, x, r, rfl, hS, hat, hn, hlen, q⟩ := h
    have hr1 : Room 1 _ := hr.mono (by decide)
    refine ⟨_, pss_cons (ps_set (i := 1) scCornersOf.nd rfl (.inl rfl) (pe_lst (pa_cons (pe_ix ix_list (pv 0) pe_int (fun _ _ => rfl)) pa_nil)))
      (pss_cons (ps_set (i := 2) scCornersOf.nd rfl (.inl rfl) (pe_slice sl_list (pv 0) (po_some pe_int) po_none))
      (pss_cons (ps_while PassesOwn.never (pt_cmpR op_gt (pe_callB call_len_seq (by rfl) ml (by decide +kernel) (pa_cons (pv 2) pa_nil)) pe_int (nomark _))
        (pss_cons (ps_set (i := 3) scCornersOf.nd rfl (.inl rfl) (pe_call G1 hr rfl m1 k1 b1 .nil pass0
            (pa_cons (pe_ix ix_list (pv 1) (pe_op op_sub (pe_callB call_len_seq (by rfl) ml (by decide +kernel) (pa_cons (pv 1) pa_nil)) pe_int) (fun _ _ => rfl)) (pa_cons (pv 2) pa_nil))))
        (pss_cons (ps_expr (pe_bm PySem.F.plainAttrs_list PySem.F.slot_list_append PySem.F.type_list_append mt_append (pv 1) (pa_cons (pv 3) pa_nil)))
        (pss_one (ps_set (i := 2) scCornersOf.nd rfl (.inl rfl) (pe_call G2 hr1 rfl m2 k2 b2 .nil pass0 (pa_cons (pv 2) (pa_cons (pv 3) pa_nil))))))))
      (pss_one (ps_ret (pv 1))))), ?_⟩
    refine ⟨_, rfl, l, _, 0, x.v, rfl, rfl, hS, at_of (j := 0) rfl rfl, (by show 1 ≤ sizeLine; decide), fun fa hfa => ?_⟩
    have s1 : Same H (upd H fa (.lst [x.v])) := same_upd hfa
    have f1' : (upd H fa (.lst [x.v])) fa = some (.lst [x.v]) := upd_same
    generalize upd H fa (.lst [x.v]) = H1 at s1 f1'
    refine ⟨_, rfl, 1, rfl, l, _, rfl, s1.seq hS, fun la hla => ?_⟩
    have cut : cutV ((x :: r).map Pt.v) (some 1) none = r.map Pt.v := cut_one x.v (r.map Pt.v)
    rw [cut]
    have s2 : Same H1 (upd H1 la (.lst (r.map Pt.v))) := same_upd hla
    have l2 : (upd H1 la (.lst (r.map Pt.v))) la = some (.lst (r.map Pt.v)) := upd_same
    generalize upd H1 la (.lst (r.map Pt.v)) = H2 at s2 l2
    refine while_by (fun σ H' => Same H H' ∧ ∃ (lb : Addr) (u : Option V) (G : List Pt) (c : Pt) (Lf : List Pt) (k : Nat), σ = [some (.ref l), some (.ref fa), some (.ref lb), u] ∧ H' fa = some (.lst ((G ++ [c]).map Pt.v)) ∧ H' lb = some (.lst (Lf.map Pt.v)) ∧ lb ≠ fa ∧
        (∀ y, y ∈ Lf → y ∈ x :: r) ∧ c ∈ x :: r ∧ Lf.length ≤ k ∧ Lf.length + G.length ≤ 100 ∧ (G ++ [c]) ++ cornersL c k Lf = x :: cornersL x r.length r) leftAt ?_ ?_ ?_
    · exact ⟨s1.trans s2, la, none, [], x, r, r.length, rfl, s2 _ _ f1', l2, (by intro e; rw [e, f1'] at hla; cases hla), fun y hy => List.mem_cons_of_mem _ hy, List.mem_cons_self, Nat.le_refl _, by show r.length + 0 ≤ 100; omega, rfl⟩
    · rintro σ H' ⟨s3, lb, u, G, c, Lf, k, rfl, hf, hl, hne, hsub, hc, hk, hG, e⟩
      refine ⟨_, rfl, lb, _, rfl, .inl (SqL.of hl), _, _, rfl, rfl, _, rfl, ?_⟩
      rw [List.length_map]
      cases Lf with
      | nil =>
        refine if_false_of rfl ?_
        rw [cornersL_nil, List.append_nil] at e
        rw [e] at hf
        exact ⟨_, rfl, q _ _ s3 hfa hf⟩
      | cons y Lr =>
        refine if_true_of (decide_eq_true (by rw [List.length_cons]; omega)) ?_
        have hix : ((G ++ [c]).map Pt.v)[G.length]? = some c.v := by
          rw [List.getElem?_map, List.getElem?_concat_length]
          rfl
        refine ⟨_, rfl, _, rfl, fa, _, rfl, .inl (SqL.of hf), _, _, rfl, rfl, fa, _, _, c.v, rfl, rfl, SqL.of hf, at_of (j := G.length) (by rw [List.length_map, List.length_append]; show ((G.length + 1 : Nat) : Int) - 1 = _; omega) hix, ?_⟩
        refine ⟨_, rfl, c, y, Lr, lb, rfl, SqL.of hl, (hat _ hc).same s3, fun z hz => (hat _ (hsub _ hz)).same s3, hn _ hc, fun z hz => hn _ (hsub _ hz), fun H4 s4 => ?_⟩
        have hnm := nextC_mem c Lr y
        generalize hd : nextC c y Lr = d at hnm
        have hdm := hsub _ hnm
        have hf4 := s4 _ _ hf
        have hl4 := s4 _ _ hl
        have s5 : Same H H4 := s3.trans s4
        refine ⟨_, rfl, .inl ⟨rfl, _, SqL.of hf4⟩, _, rfl, fa, _, _, rfl, rfl, hf4, ?_, ?_⟩
        · rw [List.length_map, List.length_append]
          exact small1000 (by show G.length + 1 ≤ 1000; omega)
        have s6 : Same H (upd H4 fa (.lst ((G ++ [c]).map Pt.v ++ [d.v]))) := fun b o eb => by
          rw [upd_ne (ne_of_none eb hfa)]
          exact s5 _ _ eb
        have hf6 : (upd H4 fa (.lst ((G ++ [c]).map Pt.v ++ [d.v]))) fa = some (.lst (((G ++ [c]) ++ [d]).map Pt.v)) := by
          rw [upd_same, List.map_append (l₁ := G ++ [c])]
          rfl
        have hl6 : (upd H4 fa (.lst ((G ++ [c]).map Pt.v ++ [d.v]))) lb = some (.lst ((y :: Lr).map Pt.v)) := by
          rw [upd_ne hne]
          exact hl4
        generalize upd H4 fa (.lst ((G ++ [c]).map Pt.v ++ [d.v])) = H6 at s6 hf6 hl6
        refine ⟨_, rfl, _, rfl, lb, y :: Lr, d, rfl, SqL.of hl6, fun z hz => (hat _ (hsub _ hz)).same s6, (hat _ hdm).same s6, by omega, fun H7 lc s7 hlc hl7 => ?_⟩
        have hb := behind_len hnm
        refine ⟨⟨s6.trans s7, lc, some d.v, G ++ [c], d, behind d (y :: Lr), k - 1, rfl, s7 _ _ hf6, hl7, (by intro e; rw [e, hf6] at hlc; cases hlc), fun z hz => hsub _ (behind_sub hz), hdm, ?_, ?_, ?_⟩, ?_⟩
        · rw [List.length_cons] at hb hk
          omega
        · rw [List.length_append]
          rw [List.length_cons] at hb hG
          show _ + (G.length + 1) ≤ 100
          omega
        · rw [List.length_cons] at hk
          obtain ⟨k', rfl⟩ : ∃ k', k = k' + 1 := ⟨k - 1, by omega⟩
          rw [← e, Nat.add_sub_cancel]
          show _ = (G ++ [c]) ++ (nextC c y Lr :: cornersL (nextC c y Lr) k' (behind (nextC c y Lr) (y :: Lr)))
          rw [hd, List.append_assoc (G ++ [c])]
          rfl
        · show leftAt [some (.ref l), some (.ref fa), some (.ref lc), some d.v] H7 < leftAt [some (.ref l), some (.ref fa), some (.ref lb), u] H'
          rw [leftAt_is hl7, leftAt_is hl, List.length_map, List.length_map]
          exact hb
    · rintro σ H Q Q' m ⟨v, e, p, ys, e1, e2, i, j, e3, e4, k, e5, q⟩
      exact ⟨v, e, p, ys, e1, e2, i, j, e3, e4, k, e5, m _ _ q⟩
/-! the corners that the program finds are the specification's -/
def gOf (p : Nat) (f : List Int) (k : Nat) : Nat × Nat := (k, Sn90.height p (Sn90.coef f k))
/-- the places behind i -/
def placesB (f : List Int) (i : Nat) : List Nat := (List.range f.length).filter fun k => decide (i < k) && Sn90.coef f k != 0
theorem placesB_mem {f : List Int} {i k : Nat} (h : k ∈ placesB f i) : k < f.length ∧ i < k ∧ Sn90.coef f k ≠ 0 := by
  obtain ⟨h1, h2⟩ := List.mem_filter.mp h
  rw [Bool.and_eq_true] at h2
  exact ⟨List.mem_range.mp h1, of_decide_eq_true h2.1, bne_iff_ne.mp h2.2⟩
theorem placesB_has {f : List Int} {i k : Nat} (h1 : k < f.length) (h2 : i < k) (h3 : Sn90.coef f k ≠ 0) : k ∈ placesB f i := by
  refine List.mem_filter.mpr ⟨List.mem_range.mpr h1, ?_⟩
  rw [Bool.and_eq_true]
  exact ⟨decide_eq_true h2, bne_iff_ne.mpr h3⟩
theorem placesB_end {f : List Int} {i : Nat} (h : f.length ≤ i + 1) : placesB f i = [] := by
  cases e : placesB f i with
  | nil => rfl
  | cons k r =>
    have := placesB_mem (f := f) (i := i) (k := k) (by rw [e]; exact List.mem_cons_self)
    omega
theorem placesB_more {f : List Int} {i j : Nat} (h : i < j) : (placesB f i).filter (fun k => decide (j < k)) = placesB f j := by
  unfold placesB
  rw [List.filter_filter]
  refine List.filter_congr fun k _ => ?_
  by_cases c : j < k
  · rw [decide_eq_true c, decide_eq_true (show i < k by omega), Bool.true_and, Bool.true_and]
  · rw [decide_eq_false c, Bool.false_and, Bool.false_and]
/-- the fold behind the first step -/
def nextN (p : Nat) (f : List Int) (i k0 : Nat) (ks : List Nat) : Nat := ks.foldl (fun b k => if Sn90.flatter p f i k b = true then k else b) k0
theorem fold_from (p : Nat) (f : List Int) (i : Nat) : ∀ (ks : List Nat) (b : Nat), i < b → (∀ k, k ∈ ks → i < k) →
    ks.foldl (fun b k => if b = i ∨ Sn90.flatter p f i k b = true then k else b) b = nextN p f i b ks
  | [], _, _, _ => rfl
  | k :: ks, b, hb, hk => by
    show ks.foldl (fun b k => if b = i ∨ Sn90.flatter p f i k b = true then k else b) (if b = i ∨ Sn90.flatter p f i k b = true then k else b) = nextN p f i (if Sn90.flatter p f i k b = true then k else b) ks
    by_cases c : Sn90.flatter p f i k b = true
    · rw [if_pos (.inr c), if_pos c]
      exact fold_from p f i ks k (hk k List.mem_cons_self) fun z hz => hk z (List.mem_cons_of_mem _ hz)
    · rw [if_neg (by rintro (h | h); · omega
                     · exact c h), if_neg c]
      exact fold_from p f i ks b hb fun z hz => hk z (List.mem_cons_of_mem _ hz)
theorem next_is {p : Nat} {f : List Int} {i k0 : Nat} {ks : List Nat} (e : placesB f i = k0 :: ks) : Sn90.next p f i = nextN p f i k0 ks := by
  unfold Sn90.next
  show (placesB f i).foldl (fun b k => if b = i ∨ Sn90.flatter p f i k b = true then k else b) i = _
  rw [e, List.foldl_cons, if_pos (.inl rfl)]
  refine fold_from p f i ks k0 ?_ fun k hk => ?_
  · exact (placesB_mem (f := f) (i := i) (by rw [e]; exact List.mem_cons_self)).2.1
  · exact (placesB_mem (f := f) (i := i) (by rw [e]; exact List.mem_cons_of_mem _ hk)).2.1
theorem nextN_mem (p : Nat) (f : List Int) (i : Nat) : ∀ (ks : List Nat) (b : Nat), nextN p f i b ks ∈ b :: ks
  | [], b => List.mem_singleton.mpr rfl
  | k :: ks, b => by
    have ih := nextN_mem p f i ks (if Sn90.flatter p f i k b = true then k else b)
    show nextN p f i (if Sn90.flatter p f i k b = true then k else b) ks ∈ b :: k :: ks
    rcases List.mem_cons.mp ih with e | e
    · rw [e]
      by_cases c : Sn90.flatter p f i k b = true
      · rw [if_pos c]
        exact List.mem_cons_of_mem _ List.mem_cons_self
      · rw [if_neg c]
        exact List.mem_cons_self
    · exact List.mem_cons_of_mem _ (List.mem_cons_of_mem _ e)
theorem next_mem {p : Nat} {f : List Int} {i k0 : Nat} {ks : List Nat} (e : placesB f i = k0 :: ks) : Sn90.next p f i ∈ placesB f i := by
  rw [next_is e, e]
  exact nextN_mem p f i ks k0
theorem steep_is {p : Nat} {f : List Int} {s x y : Pt} {i k b : Nat} (hs : s.ih = gOf p f i) (hx : x.ih = gOf p f k) (hy : y.ih = gOf p f b) : steep s x y = Sn90.flatter p f i k b := by
  obtain ⟨e1, e2⟩ := ih_eq hs
  obtain ⟨e3, e4⟩ := ih_eq hx
  obtain ⟨e5, e6⟩ := ih_eq hy
  unfold steep Sn90.flatter Sn90.at_
  rw [e1, e2, e3, e4, e5, e6]
theorem nextC_is {p : Nat} {f : List Int} {s : Pt} {i : Nat} (hs : s.ih = gOf p f i) : ∀ (r : List Pt) (ks : List Nat) (x : Pt) (b : Nat), x.ih = gOf p f b → r.map Pt.ih = ks.map (gOf p f) → (nextC s x r).ih = gOf p f (nextN p f i b ks)
  | [], [], _, _, h, _ => h
  | [], _ :: _, _, _, _, h => by cases h
  | _ :: _, [], _, _, _, h => by cases h
  | y :: r, k :: ks, x, b, h, e => by
    rw [List.map_cons, List.map_cons] at e
    have e1 := (List.cons.inj e).1
    have e2 := (List.cons.inj e).2
    show (nextC s (if steep s y x = true then y else x) r).ih = gOf p f (nextN p f i (if Sn90.flatter p f i k b = true then k else b) ks)
    rw [steep_is hs e1 h]
    by_cases c : Sn90.flatter p f i k b = true
    · rw [if_pos c, if_pos c]
      exact nextC_is hs r ks y k e1 e2
    · rw [if_neg c, if_neg c]
      exact nextC_is hs r ks x b h e2
theorem behind_is {p : Nat} {f : List Int} {s : Pt} {i : Nat} (hs : s.i = i) : ∀ (L : List Pt) (ks : List Nat), L.map Pt.ih = ks.map (gOf p f) → (behind s L).map Pt.ih = (ks.filter fun k => decide (i < k)).map (gOf p f)
  | [], [], _ => rfl
  | [], _ :: _, h => by cases h
  | _ :: _, [], h => by cases h
  | y :: r, k :: ks, e => by
    rw [List.map_cons, List.map_cons] at e
    have e1 := (List.cons.inj e).1
    have e2 := (List.cons.inj e).2
    have ih := behind_is hs r ks e2
    unfold behind at ih ⊢
    have ey : y.i = k := (ih_eq e1).1
    by_cases c : i < k
    · rw [List.filter_cons_of_pos (by rw [hs, ey]; exact decide_eq_true c), List.filter_cons_of_pos (by exact decide_eq_true c), List.map_cons, List.map_cons, ih, e1]
    · rw [List.filter_cons_of_neg (by rw [hs, ey, decide_eq_false c]; decide), List.filter_cons_of_neg (by rw [decide_eq_false c]; decide), ih]
theorem corners_run {p : Nat} {f : List Int} (hend : Sn90.coef f (f.length - 1) ≠ 0) : ∀ (m k i : Nat) (s : Pt) (L : List Pt), i < f.length → s.ih = gOf p f i → L.map Pt.ih = (placesB f i).map (gOf p f) → L.length ≤ k → f.length ≤ m + i + 1 →
    (s :: cornersL s k L).map Pt.ih = (Sn90.cornersFrom p f m i).map (gOf p f)
  | 0, k, i, s, L, hi, hs, hL, _, hm => by
    rw [placesB_end (by omega)] at hL
    have e : L = [] := List.map_eq_nil_iff.mp hL
    rw [e, cornersL_nil]
    show [s.ih] = [gOf p f i]
    rw [hs]
  | m + 1, k, i, s, L, hi, hs, hL, hk, hm => by
    show _ = (if i + 1 = f.length then [i] else i :: Sn90.cornersFrom p f m (Sn90.next p f i)).map (gOf p f)
    by_cases c : i + 1 = f.length
    · rw [if_pos c]
      rw [placesB_end (by omega)] at hL
      have e : L = [] := List.map_eq_nil_iff.mp hL
      rw [e, cornersL_nil]
      show [s.ih] = [gOf p f i]
      rw [hs]
    · rw [if_neg c]
      have hin : f.length - 1 ∈ placesB f i := placesB_has (by omega) (by omega) hend
      cases eb : placesB f i with
      | nil =>
        rw [eb] at hin
        cases hin
      | cons k0 ks =>
        rw [eb] at hL
        cases L with
        | nil => cases hL
        | cons x r =>
          cases k with
          | zero =>
            rw [List.length_cons] at hk
            omega
          | succ k =>
            have hnm := placesB_mem (next_mem (p := p) eb)
            rw [List.map_cons, List.map_cons] at hL
            have h1 := (List.cons.inj hL).1
            have h2 := (List.cons.inj hL).2
            have hc : (nextC s x r).ih = gOf p f (Sn90.next p f i) := by
              rw [next_is eb]
              exact nextC_is hs r ks x k0 h1 h2
            have hb := behind_is (p := p) (f := f) (ih_eq hc).1 (x :: r) (k0 :: ks) (by rw [List.map_cons, List.map_cons, h1, h2])
            rw [← eb, placesB_more hnm.2.1] at hb
            have hl := behind_len (nextC_mem s r x)
            have ih := corners_run hend m k (Sn90.next p f i) (nextC s x r) (behind (nextC s x r) (x :: r)) hnm.1 hc hb (by rw [List.length_cons] at hl hk; omega) (by omega)
            show s.ih :: (nextC s x r :: cornersL (nextC s x r) k (behind (nextC s x r) (x :: r))).map Pt.ih = gOf p f i :: (Sn90.cornersFrom p f m (Sn90.next p f i)).map (gOf p f)
            rw [ih, hs]
theorem pts_first {p : Nat} {f : List Int} (h0 : Sn90.coef f 0 ≠ 0) (hl : 0 < f.length) : ptsOf p f f.length = gOf p f 0 :: (placesB f 0).map (gOf p f) := by
  unfold ptsOf placesB
  obtain ⟨m, hm⟩ : ∃ m, f.length = m + 1 := ⟨f.length - 1, by omega⟩
  rw [hm, List.range_succ_eq_map]
  rw [List.filter_cons_of_pos (by exact bne_iff_ne.mpr h0), List.filter_cons_of_neg (by simp), List.map_cons]
  refine congrArg (gOf p f 0 :: ·) ?_
  refine congrArg (List.map (gOf p f)) (List.filter_congr fun k hk => ?_)
  obtain ⟨j, _, rfl⟩ := List.mem_map.mp hk
  rw [decide_eq_true (show 0 < j + 1 by omega), Bool.true_and]
/-- good says -/
theorem good_says {n : Int} {f : List Int} {p : Nat} (hs : Sn90.sizeOk n = true) (h : Sn90.good n f p = true) :
    (1 ≤ n ∧ n ≤ 24) ∧ f.length = n.toNat + 1 ∧ Sn90.coef f 0 ≠ 0 ∧ Sn90.coef f (f.length - 1) ≠ 0 ∧ Sn90.primeOk p = true := by
  unfold Sn90.sizeOk Sn90.between at hs
  rw [Bool.and_eq_true] at hs
  unfold Sn90.good Sn90.fits at h
  rw [Bool.and_eq_true, Bool.and_eq_true, Bool.and_eq_true] at h
  obtain ⟨⟨h1, h2, h3⟩, h4⟩ := h
  have e : f.length = n.toNat + 1 := beq_iff_eq.mp h1
  refine ⟨⟨of_decide_eq_true hs.1, of_decide_eq_true hs.2⟩, e, bne_iff_ne.mp h2, ?_, h4⟩
  rw [e, Nat.add_sub_cancel]
  exact bne_iff_ne.mp h3
theorem corners_main {n : Int} {f : List Int} {p : Nat} (hs : Sn90.sizeOk n = true) (h : Sn90.good n f p = true) {L : List Pt} (hL : L.map Pt.ih = ptsOf p f f.length) :
    ∃ x r, L = x :: r ∧ (∀ y, y ∈ L → y.i < f.length) ∧ r.length ≤ 24 ∧ (x :: cornersL x r.length r).map Pt.ih = (Sn90.corners p f).map (gOf p f) := by
  obtain ⟨⟨n1, n2⟩, hl, h0, he, hp⟩ := good_says hs h
  have hi : ∀ y, y ∈ L → y.i < f.length := fun y hy => by
    have hm : y.ih ∈ ptsOf p f f.length := by
      rw [← hL]
      exact List.mem_map_of_mem hy
    unfold ptsOf at hm
    obtain ⟨k, hk, e⟩ := List.mem_map.mp hm
    have := List.mem_range.mp (List.mem_filter.mp hk).1
    rw [(ih_eq e.symm).1]
    exact this
  have hlen : L.length ≤ f.length := by
    rw [← List.length_map (f := Pt.ih), hL]
    unfold ptsOf
    rw [List.length_map]
    exact Nat.le_trans (List.length_filter_le _ _) (by rw [List.length_range]; exact Nat.le_refl _)
  rw [pts_first h0 (by omega)] at hL
  cases L with
  | nil => cases hL
  | cons x r =>
    rw [List.map_cons] at hL
    have h1 := (List.cons.inj hL).1
    have h2 := (List.cons.inj hL).2
    rw [List.length_cons] at hlen
    exact ⟨x, r, rfl, hi, by omega, corners_run he f.length r.length 0 x r (by omega) h1 h2 (Nat.le_refl _) (by omega)⟩
/-! refusal_of -/
def refusal (n : Int) (p : Nat) (f : List Int) : Int := if Sn90.sizeOk n = false then -2 else if Sn90.good n f p = false then -3 else 0
theorem refusal_size {n : Int} {p : Nat} {f : List Int} (h : n < 1 ∨ 24 < n) : refusal n p f = -2 := by
  have e : Sn90.sizeOk n = false := by
    unfold Sn90.sizeOk Sn90.between
    rcases h with h | h
    · rw [decide_eq_false (by omega), Bool.false_and]
    · rw [decide_eq_false (p := n ≤ 24) (by omega), Bool.and_false]
  exact if_pos e
theorem size_ok {n : Int} (h1 : ¬ n < 1) (h2 : ¬ 24 < n) : Sn90.sizeOk n = true := by
  unfold Sn90.sizeOk Sn90.between
  rw [decide_eq_true (show 1 ≤ n by omega), decide_eq_true (show n ≤ 24 by omega)]
  rfl
theorem refusal_bad {n : Int} {p : Nat} {f : List Int} (h1 : ¬ n < 1) (h2 : ¬ 24 < n) (h : Sn90.primeOk p = false ∨ Sn90.coef f 0 = 0 ∨ Sn90.coef f n.toNat = 0) : refusal n p f = -3 := by
  have e : Sn90.good n f p = false := by
    unfold Sn90.good Sn90.fits
    rcases h with h | h | h
    · rw [h, Bool.and_false]
    · rw [h]
      simp
    · rw [h]
      simp
  unfold refusal
  rw [if_neg (by rw [size_ok h1 h2]; decide), if_pos e]
theorem refusal_none {n : Int} {p : Nat} {f : List Int} (h1 : ¬ n < 1) (h2 : ¬ 24 < n) (hl : f.length = n.toNat + 1) (h3 : Sn90.primeOk p = true) (h4 : Sn90.coef f 0 ≠ 0) (h5 : Sn90.coef f n.toNat ≠ 0) : refusal n p f = 0 := by
  have e : Sn90.good n f p = true := by
    unfold Sn90.good Sn90.fits
    rw [h3, hl, bne_iff_ne.mpr h4, bne_iff_ne.mpr h5]
    simp
  unfold refusal
  rw [if_neg (by rw [size_ok h1 h2]; decide), if_neg (by rw [e]; decide)]
theorem refusal_zero {n : Int} {p : Nat} {f : List Int} (h : ¬ refusal n p f < 0) : Sn90.sizeOk n = true ∧ Sn90.good n f p = true := by
  unfold refusal at h
  cases c1 : Sn90.sizeOk n with
  | false =>
    rw [if_pos c1] at h
    exact absurd (show (-2 : Int) < 0 by decide) h
  | true =>
    rw [if_neg (by rw [c1]; decide)] at h
    cases c2 : Sn90.good n f p with
    | false =>
      rw [if_pos c2] at h
      exact absurd (show (-3 : Int) < 0 by decide) h
    | true => exact ⟨rfl, rfl⟩
def spRefusal (K : PySem.W.Frag) : Sp := fun vs H Q _ => ∃ (n : Int) (p : Nat) (a : Addr) (f : List Int), vs = [.int n, .int p, .ref a] ∧ SqL K H a (f.map V.int) ∧ (1 ≤ n → n ≤ 24 → f.length = n.toNat + 1) ∧ Q (.int (refusal n p f)) H
theorem scRefusal : FnScope ["n", "p", "f"] ["n", "p", "f"] (defScope sRefusal) := ⟨rfl, rfl, rfl, by decide +kernel, rfl, by decide +kernel, by decide +kernel⟩
theorem ok_refusal {f : Addr} {fd : FuncData} (F : Fun K "refusal_of" "refusal_of" sRefusal f fd) {t1 t2 t3 : Tok} (g1 : mg "MOST_DEGREE" = some (.int 24 t1)) (g2 : mg "NO_DEGREE" = some (.int (-2) t2)) (g3 : mg "NOT_SO" = some (.int (-3) t3))
    (C1 : Cl P w K mg base 2 "is_prime" ["p"] spIsPrime) : FnOk P w K mg base CX0 3 f fd ["n", "p", "f"] (spRefusal K) := by
  obtain ⟨f1, d1, G1, m1, k1, b1⟩ := C1
  refine F.ok scRefusal (fun vs H Q E h => ?_) (fun cdv A outer s H vs Q E hr h => ?_)
  · obtain ⟨n, p, a, f, rfl, _⟩ := h
    rfl
  · obtain ⟨n, p, a, f, rfl, hS, hl, q⟩ := h
    refine ⟨_, pss_cons (ps_if (PW.pt (pw_or (pt_cmpR op_lt (pv 0) pe_int (nomark _)) (pw_or1 (pt_cmpR op_gt (pv 0) (pe_glob (v := .int 24) rfl g1 ⟨_, rfl⟩) (nomark _)))))
        (pss_one (ps_ret (pe_glob (v := .int (-2)) rfl g2 ⟨_, rfl⟩))) pss_nil)
      (pss_cons (ps_if (PW.pt (pw_or (pt_not (pt_val (pe_call G1 hr rfl m1 k1 b1 .nil pass0 (pa_cons (pv 1) pa_nil))))
          (pw_or (pt_cmpR op_eq (pe_ix ix_list (pv 2) pe_int (fun _ _ => rfl)) pe_int (nomark _)) (pw_or1 (pt_cmpR op_eq (pe_ix ix_list (pv 2) (pv 0) (fun _ _ => rfl)) pe_int (nomark _))))))
        (pss_one (ps_ret (pe_glob (v := .int (-3)) rfl g3 ⟨_, rfl⟩))) pss_nil)
      (pss_one (ps_ret pe_int))), ?_⟩
    refine ⟨_, rfl, _, _, rfl, rfl, _, rfl, ?_⟩
    by_cases c1 : n < 1
    · refine if_true_of (decide_eq_true c1) ?_
      refine iteT ?_
      rw [refusal_size (.inl c1)] at q
      exact q
    refine if_false_of (decide_eq_false c1) ?_
    refine ⟨_, rfl, _, _, rfl, rfl, _, rfl, ?_⟩
    by_cases c2 : 24 < n
    · refine if_true_of (decide_eq_true c2) ?_
      rw [refusal_size (.inr c2)] at q
      exact q
    refine if_false_of (decide_eq_false c2) ?_
    have hlen := hl (by omega) (by omega)
    have hc : ∀ j : Nat, j < f.length → (f.map V.int)[j]? = some (.int (Sn90.coef f j)) := fun j hj => by
      rw [List.getElem?_map, List.getElem?_eq_getElem hj]
      unfold Sn90.coef
      rw [List.getD_eq_getElem?_getD, List.getElem?_eq_getElem hj]
      rfl
    refine ⟨_, rfl, p, rfl, _, rfl, ?_⟩
    cases c3 : Sn90.primeOk p with
    | false =>
      refine if_true_of rfl ?_
      refine iteT ?_
      rw [refusal_bad c1 c2 (.inl c3)] at q
      exact q
    | true =>
      refine if_false_of rfl ?_
      refine ⟨_, rfl, a, _, 0, _, rfl, rfl, hS, at_of (j := 0) rfl (hc 0 (by omega)), rfl, _, rfl, ?_⟩
      by_cases c4 : Sn90.coef f 0 = 0
      · refine if_true_of ((dec_int _ 0).trans (decide_eq_true c4)) ?_
        refine iteT ?_
        rw [refusal_bad c1 c2 (.inr (.inl c4))] at q
        exact q
      · refine if_false_of ((dec_int _ 0).trans (decide_eq_false c4)) ?_
        refine ⟨_, rfl, _, rfl, a, _, n, _, rfl, rfl, hS, at_of (j := n.toNat) (by omega) (hc n.toNat (by omega)), rfl, _, rfl, ?_⟩
        by_cases c5 : Sn90.coef f n.toNat = 0
        · refine if_true_of ((dec_int _ 0).trans (decide_eq_true c5)) ?_
          rw [refusal_bad c1 c2 (.inr (.inr c5))] at q
          exact q
        · refine if_false_of ((dec_int _ 0).trans (decide_eq_false c5)) ?_
          rw [refusal_none c1 c2 hlen c3 c4 c5] at q
          exact q
/-! common_divisor, pieces_between, pieces_of, all_pieces -/
def spGcd : Sp := fun vs H Q _ => ∃ a b : Nat, vs = [.int a, .int b] ∧ Q (.int (Nat.gcd a b : Nat)) H
theorem scGcd : FnScope ["one", "other"] ["one", "other"] (defScope sGcd) := ⟨rfl, rfl, rfl, by decide +kernel, rfl, by decide +kernel, by decide +kernel⟩
def firstAt : L2.St → Nat
  | [some (.int y), _] => y.natAbs
  | _ => 0
theorem ok_gcd {f : Addr} {fd : FuncData} (F : Fun K "common_divisor" "common_divisor" sGcd f fd) : FnOk P w K mg base CX0 1 f fd ["one", "other"] spGcd := by
  refine F.ok scGcd (fun vs H Q E h => ?_) (fun cdv A outer s H vs Q E hr h => ?_)
  · obtain ⟨a, b, rfl, _⟩ := h
    rfl
  · obtain ⟨a, b, rfl, q⟩ := h
    refine ⟨_, pss_cons (ps_while PassesOwn.never (pt_cmpR op_gt (pv 0) pe_int (nomark _))
        (pss_one (ps_par (i := 0) (j := 1) (by rfl) scGcd.nd rfl rfl (by decide) rfl rfl (pa_cons (pe_op op_mod (pv 1) (pv 0)) (pa_cons (pv 0) pa_nil)) (by rfl))))
      (pss_one (ps_ret (pv 1))), ?_⟩
    refine while_by (fun σ H' => H' = H ∧ ∃ x y : Nat, σ = [some (.int x), some (.int y)] ∧ Nat.gcd x y = Nat.gcd a b) (fun σ _ => firstAt σ) ⟨rfl, a, b, rfl, rfl⟩ ?_ ?_
    · rintro σ _ ⟨rfl, x, y, rfl, e⟩
      refine ⟨_, rfl, _, _, rfl, rfl, _, rfl, ?_⟩
      by_cases c : (0 : Int) < x
      · refine if_true_of (decide_eq_true c) ?_
        have hlt : y % x < x := Nat.mod_lt _ (by omega)
        refine ⟨_, rfl, _, rfl, _, _, rfl, rfl, c, _, rfl, _, _, rfl, ⟨rfl, y % x, x, ?_, ?_⟩, ?_⟩
        · rw [Int.natCast_emod]
          rfl
        · rw [← Nat.gcd_rec]
          exact e
        · show ((y : Int) % (x : Int)).natAbs < (x : Int).natAbs
          rw [← Int.natCast_emod, Int.natAbs_natCast, Int.natAbs_natCast]
          exact hlt
      · refine if_false_of (decide_eq_false c) ?_
        have hx : x = 0 := by omega
        subst hx
        rw [Nat.gcd_zero_left] at e
        rw [← e] at q
        exact ⟨_, rfl, q⟩
    · rintro σ H Q Q' m ⟨v, e, i, j, e3, e4, k, e5, q⟩
      exact ⟨v, e, i, j, e3, e4, k, e5, m _ _ q⟩
/-- the pieces from a corner to the next -/
def btw (s e : Nat × Nat) : List Nat := List.replicate (Nat.gcd ((e.2 : Int) - s.2).natAbs (e.1 - s.1)) ((e.1 - s.1) / Nat.gcd ((e.2 : Int) - s.2).natAbs (e.1 - s.1))
def vN (x : Nat) : V := .int x
theorem rep_flat (v : V) : ∀ n : Nat, (List.replicate n [v]).flatten = List.replicate n v
  | 0 => rfl
  | n + 1 => by
    rw [List.replicate_succ, List.flatten_cons, rep_flat v n, List.replicate_succ]
    rfl
def spBetween (C : Addr) : Sp := fun vs H Q _ => ∃ s e : Pt, vs = [s.v, e.v] ∧ (PtAt C H s ∧ PtAt C H e) ∧ (s.i < e.i ∧ e.i ≤ 1000) ∧
  ∀ (H' : Hp) (q : Addr), Same H H' → H q = none → H' q = some (.lst ((btw s.ih e.ih).map vN)) → Q (.ref q) H'
theorem scBetween : FnScope ["start", "end", "many"] ["start", "end"] (defScope sBetween) := ⟨rfl, rfl, rfl, by decide +kernel, rfl, by decide +kernel, by decide +kernel⟩
theorem ok_between {C f : Addr} {fd : FuncData} (F : Fun K "pieces_between" "pieces_between" sBetween f fd) (ma : mg "abs" = none) (C1 : Cl P w K mg base 1 "common_divisor" ["one", "other"] spGcd)
    (C2 : Cl P w K mg base 1 "run_of" ["start", "end"] (spRunOf C)) (C3 : Cl P w K mg base 1 "rise_of" ["start", "end"] (spRiseOf C)) : FnOk P w K mg base CX0 2 f fd ["start", "end"] (spBetween C) := by
  obtain ⟨f1, d1, G1, m1, k1, b1⟩ := C1
  obtain ⟨f2, d2, G2, m2, k2, b2⟩ := C2
  obtain ⟨f3, d3, G3, m3, k3, b3⟩ := C3
  refine F.ok scBetween (fun vs H Q E h => ?_) (fun cdv A outer s H vs Q E hr h => ?_)
  · obtain ⟨a, b, rfl, _⟩ := h
    rfl
  · obtain ⟨a, b, rfl, ⟨ha, hb⟩, ⟨hlt, hle⟩, q⟩ := h
    refine ⟨_, pss_cons (ps_set (i := 2) scBetween.nd rfl (.inl rfl) (pe_call G1 hr rfl m1 k1 b1 .nil pass0
        (pa_cons (pe_callB call_abs (by rfl) ma (by decide +kernel) (pa_cons (pe_call G3 hr rfl m3 k3 b3 .nil pass0 (pa_cons (pv 0) (pa_cons (pv 1) pa_nil))) pa_nil))
          (pa_cons (pe_call G2 hr rfl m2 k2 b2 .nil pass0 (pa_cons (pv 0) (pa_cons (pv 1) pa_nil))) pa_nil))))
      (pss_one (ps_ret (pe_op op_rep (pe_lst (pa_cons (pe_op op_fdiv (pe_call G2 hr rfl m2 k2 b2 .nil pass0 (pa_cons (pv 0) (pa_cons (pv 1) pa_nil))) (pv 2)) pa_nil)) (pv 2)))), ?_⟩
    have e1 : (if (b.h : Int) - a.h < 0 then -((b.h : Int) - a.h) else (b.h : Int) - a.h) = ((((b.h : Int) - a.h).natAbs : Nat) : Int) := by
      split <;> omega
    have e2 : (b.i : Int) - a.i = ((b.i - a.i : Nat) : Int) := by omega
    refine ⟨_, rfl, _, rfl, a, b, rfl, ha, hb, _, rfl, _, rfl, _, rfl, a, b, rfl, ha, hb, ((b.h : Int) - a.h).natAbs, b.i - a.i, ?_, ?_⟩
    · rw [e1, e2]
      rfl
    have hg : btw a.ih b.ih = List.replicate (Nat.gcd ((b.h : Int) - a.h).natAbs (b.i - a.i)) ((b.i - a.i) / Nat.gcd ((b.h : Int) - a.h).natAbs (b.i - a.i)) := rfl
    have g0 : 0 < Nat.gcd ((b.h : Int) - a.h).natAbs (b.i - a.i) := Nat.gcd_pos_of_pos_right _ (by omega)
    have g1 : Nat.gcd ((b.h : Int) - a.h).natAbs (b.i - a.i) ≤ b.i - a.i := Nat.gcd_le_right _ (by omega)
    rw [hg] at q
    generalize Nat.gcd ((b.h : Int) - a.h).natAbs (b.i - a.i) = g at g0 g1 q
    refine ⟨_, rfl, _, rfl, a, b, rfl, ha, hb, _, rfl, _, _, rfl, rfl, ⟨by omega, by omega⟩, (by show 1 ≤ sizeLine; decide), fun p hp => ?_⟩
    refine ⟨_, rfl, p, _, _, rfl, rfl, upd_same, by omega, by omega, ?_, fun r hr0 => ?_⟩
    · show 1 * (g : Int).toNat ≤ sizeLine
      exact Nat.le_of_lt (small1000 (by omega))
    · refine q _ r ((same_upd hp).trans (same_upd hr0)) ((same_upd hp).free hr0) ?_
      rw [upd_same, rep_flat, List.map_replicate, Int.toNat_natCast, e2]
      show some (HO.lst (List.replicate g (V.int (((b.i - a.i : Nat) : Int) / (g : Int))))) = _
      rw [← Int.natCast_ediv]
      rfl
/-- of corners, one behind the other -/
def btwL (N : List (Nat × Nat)) : List Nat := (N.zip (N.drop 1)).flatMap fun x => btw x.1 x.2
theorem zip_at {M : List Pt} {i : Nat} {s e : Pt} (h1 : M[i]? = some s) (h2 : M[i + 1]? = some e) : ((M.map Pt.ih).zip ((M.map Pt.ih).drop 1))[i]? = some (s.ih, e.ih) := by
  rw [List.getElem?_zip_eq_some]
  constructor
  · rw [List.getElem?_map, h1]
    rfl
  · rw [List.getElem?_drop, List.getElem?_map, Nat.add_comm 1 i, h2]
    rfl
def spPiecesOf (C : Addr) (K : PySem.W.Frag) : Sp := fun vs H Q _ => ∃ (l : Addr) (M : List Pt), vs = [.ref l] ∧ SqL K H l (M.map Pt.v) ∧ (∀ y, y ∈ M → PtAt C H y) ∧ (∀ y, y ∈ M → y.i ≤ 1000) ∧ (∀ (j : Nat) (s e : Pt), M[j]? = some s → M[j + 1]? = some e → s.i < e.i) ∧
  (1 ≤ M.length ∧ M.length ≤ 100) ∧ ∀ (H' : Hp) (q : Addr), Same H H' → H q = none → H' q = some (.lst ((btwL (M.map Pt.ih)).map vN)) → Q (.ref q) H'
theorem scPiecesOf : FnScope ["corners", "found", "at"] ["corners"] (defScope sPiecesOf) := ⟨rfl, rfl, rfl, by decide +kernel, rfl, by decide +kernel, by decide +kernel⟩
theorem ok_pieces_of {C f : Addr} {fd : FuncData} (F : Fun K "pieces_of" "pieces_of" sPiecesOf f fd) (mr : mg "range" = none) (ml : mg "len" = none) (C1 : Cl P w K mg base 2 "pieces_between" ["start", "end"] (spBetween C)) :
    FnOk P w K mg base CX0 3 f fd ["corners"] (spPiecesOf C K) := by
  obtain ⟨f1, d1, G1, m1, k1, b1⟩ := C1
  refine F.ok scPiecesOf (fun vs H Q E h => ?_) (fun cdv A outer s H vs Q E hr h => ?_)
  · obtain ⟨l, M, rfl, _⟩ := h
    rfl
  · obtain ⟨l, M, rfl, hS, hat, hn, hinc, ⟨hl1, hl2⟩, q⟩ := h
    refine ⟨_, pss_cons (ps_set (i := 1) scPiecesOf.nd rfl (.inl rfl) (pe_lst pa_nil))
      (pss_cons (ps_for PassesOwn.never rfl (pi_range1 rfl mr (pa_cons (pe_op op_sub (pe_callB call_len_seq (by rfl) ml (by decide +kernel) (pa_cons (pv 0) pa_nil)) pe_int) pa_nil)) (pg_name (i := 2) scPiecesOf.nd rfl (.inl rfl))
        (pss_one (ps_set (i := 1) scPiecesOf.nd rfl (.inl rfl) (pe_op op_cat (pv 1) (pe_call G1 hr rfl m1 k1 b1 .nil pass0
          (pa_cons (pe_ix ix_list (pv 0) (pv 2) (fun _ _ => rfl)) (pa_cons (pe_ix ix_list (pv 0) (pe_op op_add (pv 2) pe_int) (fun _ _ => rfl)) pa_nil)))))))
      (pss_one (ps_ret (pv 1)))), ?_⟩
    refine ⟨(by show 0 ≤ sizeLine; decide), fun t ht => ?_⟩
    have s1 : Same H (upd H t (.lst [])) := same_upd ht
    have t1 : (upd H t (.lst [])) t = some (.lst []) := upd_same
    generalize upd H t (.lst []) = H1 at s1 t1
    refine ⟨_, rfl, l, _, rfl, .inl (s1.seq hS), _, _, rfl, rfl, _, rfl, ?_, ?_, ?_⟩
    · rw [List.length_map]
      omega
    · rw [List.length_map]
      omega
    rw [List.length_map]
    have hN : ((M.length : Int) - 1).toNat = M.length - 1 := by omega
    rw [hN]
    refine for_range (lo := 0) (n := M.length - 1) (fun i σ H' => Same H H' ∧ ∃ (t' : Addr) (u : Option V), σ = [some (.ref l), some (.ref t'), u] ∧ H t' = none ∧
      H' t' = some (.lst (((((M.map Pt.ih).zip ((M.map Pt.ih).drop 1)).take i).flatMap fun x => btw x.1 x.2).map vN)) ∧ ((((M.map Pt.ih).zip ((M.map Pt.ih).drop 1)).take i).flatMap fun x => btw x.1 x.2).length ≤ 1000 * i)
      ⟨s1, t, none, rfl, ht, t1, Nat.le_refl _⟩ ?_ ?_
    · rintro i σ H' hi ⟨s2, t', u, rfl, ht0, ht', hlen⟩
      obtain ⟨a, ha⟩ : ∃ a, M[i]? = some a := ⟨_, List.getElem?_eq_getElem (by omega)⟩
      obtain ⟨b, hb⟩ : ∃ b, M[i + 1]? = some b := ⟨_, List.getElem?_eq_getElem (by omega)⟩
      have hz := zip_at ha hb
      have hlt := hinc i a b ha hb
      have hbn := hn b (List.mem_of_getElem? hb)
      have hA : (M.map Pt.v)[i]? = some a.v := by
        rw [List.getElem?_map, ha]
        rfl
      have hB : (M.map Pt.v)[i + 1]? = some b.v := by
        rw [List.getElem?_map, hb]
        rfl
      refine ⟨_, rfl, _, rfl, _, rfl, l, _, _, _, rfl, rfl, s2.seq hS, at_of (j := i) (by omega) hA, _, rfl, _, rfl, _, _, rfl, rfl, l, _, _, _, rfl, rfl, s2.seq hS, at_of (j := i + 1) (by omega) hB, ?_⟩
      refine ⟨a, b, rfl, ⟨(hat a (List.mem_of_getElem? ha)).same s2, (hat b (List.mem_of_getElem? hb)).same s2⟩, ⟨hlt, hbn⟩, fun H3 o s3 ho hbo => ?_⟩
      have hbl : (btw a.ih b.ih).length ≤ 1000 := by
        unfold btw
        rw [List.length_replicate]
        refine Nat.le_trans (Nat.gcd_le_right _ ?_) ?_
        · show 0 < b.i - a.i
          omega
        · show b.i - a.i ≤ 1000
          omega
      refine ⟨t', o, _, _, rfl, rfl, s3 _ _ ht', hbo, ?_, fun z hz0 => ⟨(s2.trans s3).trans (same_upd hz0), z, _, rfl, (s2.trans s3).free hz0, ?_, ?_⟩⟩
      · rw [List.length_map, List.length_map]
        refine Nat.le_trans (Nat.add_le_add hlen hbl) ?_
        show 1000 * i + 1000 ≤ sizeLine
        refine Nat.le_trans (show 1000 * i + 1000 ≤ 200000 by omega) (by decide)
      · rw [upd_same, take_snoc hz, List.flatMap_append, List.map_append, List.flatMap_cons, List.flatMap_nil, List.append_nil]
      · rw [take_snoc hz, List.flatMap_append, List.flatMap_cons, List.flatMap_nil, List.append_nil, List.length_append]
        exact Nat.le_trans (Nat.add_le_add hlen hbl) (by omega)
    · rintro σ H' ⟨s2, t', u, rfl, ht0, ht', _⟩
      rw [List.take_of_length_le (by rw [List.length_zip, List.length_drop, List.length_map]; omega)] at ht'
      exact ⟨_, rfl, q H' t' s2 ht0 ht'⟩
/-! the specification's pieces -/
theorem cf_head (p : Nat) (f : List Int) (m i : Nat) : ∃ t, Sn90.cornersFrom p f m i = i :: t := by
  cases m with
  | zero => exact ⟨[], rfl⟩
  | succ m =>
    show ∃ t, (if i + 1 = f.length then [i] else i :: Sn90.cornersFrom p f m (Sn90.next p f i)) = i :: t
    by_cases c : i + 1 = f.length
    · exact ⟨[], if_pos c⟩
    · exact ⟨_, if_neg c⟩
theorem next_says {p : Nat} {f : List Int} (hend : Sn90.coef f (f.length - 1) ≠ 0) {i : Nat} (hi : i + 1 < f.length) : i < Sn90.next p f i ∧ Sn90.next p f i < f.length := by
  have hin : f.length - 1 ∈ placesB f i := placesB_has (by omega) (by omega) hend
  cases eb : placesB f i with
  | nil =>
    rw [eb] at hin
    cases hin
  | cons k0 ks =>
    have hnm := placesB_mem (next_mem (p := p) eb)
    exact ⟨hnm.2.1, hnm.1⟩
theorem cf_inc {p : Nat} {f : List Int} (hend : Sn90.coef f (f.length - 1) ≠ 0) : ∀ (m i j a b : Nat), i < f.length → (Sn90.cornersFrom p f m i)[j]? = some a → (Sn90.cornersFrom p f m i)[j + 1]? = some b → a < b
  | 0, i, j, a, b, _, _, h2 => by
    have h2 : ([i] : List Nat)[j + 1]? = some b := h2
    rw [List.getElem?_eq_none (by show 1 ≤ j + 1; omega)] at h2
    cases h2
  | m + 1, i, j, a, b, hi, h1, h2 => by
    have e : Sn90.cornersFrom p f (m + 1) i = if i + 1 = f.length then [i] else i :: Sn90.cornersFrom p f m (Sn90.next p f i) := rfl
    by_cases c : i + 1 = f.length
    · rw [e, if_pos c] at h2
      rw [List.getElem?_eq_none (by show 1 ≤ j + 1; omega)] at h2
      cases h2
    · rw [e, if_neg c] at h1 h2
      have hn := next_says (p := p) hend (i := i) (by omega)
      cases j with
      | zero =>
        obtain ⟨t, ht⟩ := cf_head p f m (Sn90.next p f i)
        rw [ht] at h2
        have ea : i = a := Option.some.inj h1
        have eb : Sn90.next p f i = b := Option.some.inj h2
        omega
      | succ j => exact cf_inc hend m (Sn90.next p f i) j a b hn.2 h1 h2
theorem btwL_is (p : Nat) (f : List Int) (C : List Nat) : btwL (C.map (gOf p f)) = (C.zip (C.drop 1)).flatMap fun x => Sn90.piecesOf p f x.1 x.2 := by
  unfold btwL
  rw [← List.map_drop, List.zip_map, List.flatMap_map]
  rfl
theorem cl_len : ∀ (k : Nat) (s : Pt) (L : List Pt), (cornersL s k L).length ≤ k
  | 0, _, _ => Nat.le_refl _
  | _ + 1, _, [] => Nat.zero_le _
  | k + 1, s, z :: L => by
    show (cornersL (nextC s z L) k (behind (nextC s z L) (z :: L))).length + 1 ≤ k + 1
    have := cl_len k (nextC s z L) (behind (nextC s z L) (z :: L))
    omega
def spAllPieces (K : PySem.W.Frag) : Sp := fun vs H Q _ => ∃ (n : Int) (p : Nat) (a : Addr) (f : List Int), vs = [.int p, .ref a] ∧ SqL K H a (f.map V.int) ∧ Sn90.sizeOk n = true ∧ Sn90.good n f p = true ∧
  ∀ (H' : Hp) (q : Addr), Same H H' → H q = none → H' q = some (.lst ((Sn90.pieces p f).map vN)) → Q (.ref q) H'
theorem scAllPieces : FnScope ["p", "f"] ["p", "f"] (defScope sAllPieces) := ⟨rfl, rfl, rfl, by decide +kernel, rfl, by decide +kernel, by decide +kernel⟩
theorem ok_all_pieces {C f : Addr} {fd : FuncData} (F : Fun K "all_pieces" "all_pieces" sAllPieces f fd) (C1 : Cl P w K mg base 3 "points_of" ["p", "f"] (spPointsOf C K)) (C2 : Cl P w K mg base 4 "corners_of" ["points"] (spCornersOf C K))
    (C3 : Cl P w K mg base 3 "pieces_of" ["corners"] (spPiecesOf C K)) : FnOk P w K mg base CX0 5 f fd ["p", "f"] (spAllPieces K) := by
  obtain ⟨f1, d1, G1, m1, k1, b1⟩ := C1
  obtain ⟨f2, d2, G2, m2, k2, b2⟩ := C2
  obtain ⟨f3, d3, G3, m3, k3, b3⟩ := C3
  refine F.ok scAllPieces (fun vs H Q E h => ?_) (fun cdv A outer s H vs Q E hr h => ?_)
  · obtain ⟨n, p, a, f, rfl, _⟩ := h
    rfl
  · obtain ⟨n, p, a, f, rfl, hS, g1, g2, q⟩ := h
    have hr1 : Room 3 _ := hr.mono (by decide)
    refine ⟨_, pss_one (ps_ret (pe_call G3 hr1 rfl m3 k3 b3 .nil pass0 (pa_cons (pe_call G2 hr rfl m2 k2 b2 .nil pass0 (pa_cons (pe_call G1 hr1 rfl m1 k1 b1 .nil pass0 (pa_cons (pv 0) (pa_cons (pv 1) pa_nil))) pa_nil)) pa_nil))), ?_⟩
    obtain ⟨⟨n1, n2⟩, hlen, h0, he, hpr⟩ := good_says g1 g2
    have hb := prime_bounds hpr
    refine ⟨_, rfl, _, rfl, p, a, f, rfl, hS, hb, by omega, fun H1 l L s1 hl0 hl1 hat1 hih => ?_⟩
    obtain ⟨x, r, rfl, hi, hr24, hmain⟩ := corners_main g1 g2 hih
    refine ⟨l, x, r, rfl, SqL.of hl1, hat1, fun y hy => by have := hi y hy; omega, by omega, fun H2 m s2 hm0 hm2 => ?_⟩
    have hsub : ∀ y, y ∈ x :: cornersL x r.length r → y ∈ x :: r := fun y hy => by
      rcases List.mem_cons.mp hy with e | e
      · rw [e]
        exact List.mem_cons_self
      · exact List.mem_cons_of_mem _ (cornersL_mem _ _ _ _ e)
    have hMl := cl_len r.length x r
    refine ⟨m, _, rfl, SqL.of hm2, fun y hy => (hat1 y (hsub y hy)).same s2, fun y hy => by have := hi y (hsub y hy); omega, fun j s e hs he' => ?_, ⟨by rw [List.length_cons]; omega, by rw [List.length_cons]; omega⟩, fun H3 z s3 hz0 hz3 => ?_⟩
    · have hC : ∀ (j : Nat) (y : Pt), (x :: cornersL x r.length r)[j]? = some y → (Sn90.corners p f)[j]? = some y.i := fun j y hy => by
        have h1 : ((x :: cornersL x r.length r).map Pt.ih)[j]? = some y.ih := by
          rw [List.getElem?_map, hy]
          rfl
        rw [hmain] at h1
        obtain ⟨k, hk, ek⟩ := map_get h1
        rw [hk, (ih_eq ek).1]
      exact cf_inc he f.length 0 j s.i e.i (by omega) (hC j s hs) (hC (j + 1) e he')
    · refine q H3 z ((s1.trans s2).trans s3) ((s1.trans s2).free hz0) ?_
      rw [hz3, hmain, btwL_is]
      rfl
/-! how long the pieces are together -/
theorem sum_run {p : Nat} {f : List Int} (hend : Sn90.coef f (f.length - 1) ≠ 0) : ∀ (m i : Nat), i < f.length → f.length ≤ m + i + 1 →
    (((Sn90.cornersFrom p f m i).zip ((Sn90.cornersFrom p f m i).drop 1)).flatMap fun x => Sn90.piecesOf p f x.1 x.2).sum = f.length - 1 - i
  | 0, i, hi, hm => by
    show (0 : Nat) = _
    omega
  | m + 1, i, hi, hm => by
    have e : Sn90.cornersFrom p f (m + 1) i = if i + 1 = f.length then [i] else i :: Sn90.cornersFrom p f m (Sn90.next p f i) := rfl
    by_cases c : i + 1 = f.length
    · rw [e, if_pos c]
      show (0 : Nat) = _
      omega
    · rw [e, if_neg c]
      have hn := next_says (p := p) hend (i := i) (by omega)
      have ih := sum_run (p := p) hend m (Sn90.next p f i) hn.2 (by omega)
      obtain ⟨t, ht⟩ := cf_head p f m (Sn90.next p f i)
      rw [ht] at ih ⊢
      show ((Sn90.piecesOf p f i (Sn90.next p f i) ++ (((Sn90.next p f i :: t).zip ((Sn90.next p f i :: t).drop 1)).flatMap fun x => Sn90.piecesOf p f x.1 x.2))).sum = _
      rw [List.sum_append, ih]
      have hp : (Sn90.piecesOf p f i (Sn90.next p f i)).sum = Sn90.next p f i - i := by
        show (List.replicate (Nat.gcd (Sn90.at_ p f (Sn90.next p f i) - Sn90.at_ p f i).natAbs (Sn90.next p f i - i)) ((Sn90.next p f i - i) / Nat.gcd (Sn90.at_ p f (Sn90.next p f i) - Sn90.at_ p f i).natAbs (Sn90.next p f i - i))).sum = _
        rw [List.sum_replicate_nat]
        exact Nat.mul_div_cancel' (Nat.gcd_dvd_right _ _)
      rw [hp]
      omega
theorem pieces_sum {n : Int} {f : List Int} {p : Nat} (hs : Sn90.sizeOk n = true) (h : Sn90.good n f p = true) : (Sn90.pieces p f).sum = f.length - 1 := by
  obtain ⟨_, hl, h0, he, _⟩ := good_says hs h
  exact sum_run he f.length 0 (by omega) (by omega)
/-! lengths_together, parts -/
def tog (ps : List Nat) : Nat := ps.foldl (fun m x => m ||| m * 2 ^ x) 1
theorem tog_snoc (ps : List Nat) (x : Nat) : tog (ps ++ [x]) = (tog ps ||| tog ps * 2 ^ x) := by
  unfold tog
  rw [List.foldl_append]
  rfl
theorem tog_small : ∀ (ps : List Nat) (m s : Nat), m < 2 ^ (s + 1) → ps.foldl (fun m x => m ||| m * 2 ^ x) m < 2 ^ (s + ps.sum + 1)
  | [], m, s, h => by
    rw [List.sum_nil, Nat.add_zero]
    exact h
  | x :: r, m, s, h => by
    have h1 : m < 2 ^ (s + x + 1) := Nat.lt_of_lt_of_le h (Nat.pow_le_pow_right (by decide) (by omega))
    have h2 : m * 2 ^ x < 2 ^ (s + x + 1) := by
      rw [show s + x + 1 = (s + 1) + x by omega, Nat.pow_add]
      exact Nat.mul_lt_mul_of_pos_right h (Nat.pow_pos (by decide))
    have ih := tog_small r (m ||| m * 2 ^ x) (s + x) (Nat.or_lt_two_pow h1 h2)
    rw [List.foldl_cons, List.sum_cons, ← Nat.add_assoc]
    exact ih
theorem tog_lt (ps : List Nat) : tog ps < 2 ^ (ps.sum + 1) := by
  have h := tog_small ps 1 0 (by decide)
  rw [Nat.zero_add] at h
  exact h
theorem sum_take_le : ∀ (l : List Nat) (i : Nat), (l.take i).sum ≤ l.sum
  | [], i => by
    rw [List.take_nil]
    exact Nat.le_refl _
  | x :: r, 0 => Nat.zero_le _
  | x :: r, i + 1 => by
    have ih := sum_take_le r i
    rw [List.take_succ_cons, List.sum_cons, List.sum_cons]
    omega
theorem mem_le_sum : ∀ (l : List Nat) (x : Nat), x ∈ l → x ≤ l.sum
  | [], _, h => by cases h
  | y :: r, x, h => by
    rw [List.sum_cons]
    rcases List.mem_cons.mp h with e | e
    · omega
    · have := mem_le_sum r x e
      omega
theorem tog_bit : ∀ (ps : List Nat) (m d : Nat), (ps.foldl (fun m x => m ||| m * 2 ^ x) m).testBit d = true ↔ ∃ e, e ∈ Sn90.sums ps ∧ e ≤ d ∧ m.testBit (d - e) = true
  | [], m, d => by
    constructor
    · exact fun h => ⟨0, List.mem_singleton.mpr rfl, Nat.zero_le _, h⟩
    · rintro ⟨e, he, _, h⟩
      rw [List.mem_singleton.mp he] at h
      exact h
  | x :: r, m, d => by
    rw [List.foldl_cons, tog_bit r (m ||| m * 2 ^ x) d]
    have hb : ∀ k : Nat, (m ||| m * 2 ^ x).testBit k = true ↔ m.testBit k = true ∨ (x ≤ k ∧ m.testBit (k - x) = true) := fun k => by
      rw [Nat.testBit_or, Nat.mul_comm m, Nat.testBit_two_pow_mul, Bool.or_eq_true, Bool.and_eq_true, decide_eq_true_iff]
    show _ ↔ ∃ e, e ∈ Sn90.sums r ++ (Sn90.sums r).map (fun y => x + y) ∧ e ≤ d ∧ m.testBit (d - e) = true
    constructor
    · rintro ⟨e, he, hle, h⟩
      rcases (hb _).mp h with h | ⟨h1, h2⟩
      · exact ⟨e, List.mem_append_left _ he, hle, h⟩
      · refine ⟨x + e, List.mem_append_right _ (List.mem_map_of_mem he), by omega, ?_⟩
        rw [show d - (x + e) = d - e - x by omega]
        exact h2
    · rintro ⟨e, he, hle, h⟩
      rcases List.mem_append.mp he with he | he
      · exact ⟨e, he, hle, (hb _).mpr (.inl h)⟩
      · obtain ⟨y, hy, rfl⟩ := List.mem_map.mp he
        refine ⟨y, hy, by omega, (hb _).mpr (.inr ⟨by omega, ?_⟩)⟩
        rw [show d - y - x = d - (x + y) by omega]
        exact h
theorem one_bit (k : Nat) : (1 : Nat).testBit k = true ↔ k = 0 := by
  cases k with
  | zero => exact ⟨fun _ => rfl, fun _ => rfl⟩
  | succ k =>
    rw [Nat.testBit_lt_two_pow (show 1 < 2 ^ (k + 1) from Nat.one_lt_two_pow (by omega))]
    exact ⟨fun h => (by cases h), fun h => (by cases h)⟩
theorem tog_is (ps : List Nat) (d : Nat) : (tog ps).testBit d = true ↔ d ∈ Sn90.sums ps := by
  unfold tog
  rw [tog_bit ps 1 d]
  constructor
  · rintro ⟨e, he, hle, h⟩
    have := (one_bit _).mp h
    rw [show d = e by omega]
    exact he
  · intro h
    refine ⟨d, h, Nat.le_refl _, ?_⟩
    rw [Nat.sub_self]
    rfl
theorem sums_le : ∀ (ps : List Nat) (e : Nat), e ∈ Sn90.sums ps → e ≤ ps.sum
  | [], e, h => by
    rw [List.mem_singleton.mp h]
    exact Nat.le_refl _
  | x :: r, e, h => by
    rw [List.sum_cons]
    rcases List.mem_append.mp (show e ∈ Sn90.sums r ++ (Sn90.sums r).map (fun y => x + y) from h) with h | h
    · have := sums_le r e h
      omega
    · obtain ⟨y, hy, rfl⟩ := List.mem_map.mp h
      have := sums_le r y hy
      omega
def maskTo (m : Nat) (B : Nat → Bool) : Nat := ((List.range m).map fun d => if B d = true then 2 ^ d else 0).sum
theorem maskTo_succ (m : Nat) (B : Nat → Bool) : maskTo (m + 1) B = maskTo m B + if B m = true then 2 ^ m else 0 := by
  unfold maskTo
  rw [List.range_succ, List.map_append, List.sum_append]
  rfl
theorem maskTo_lt (B : Nat → Bool) : ∀ m : Nat, maskTo m B < 2 ^ m
  | 0 => Nat.lt_succ_self 0
  | m + 1 => by
    have ih := maskTo_lt B m
    rw [maskTo_succ, Nat.pow_succ]
    split <;> omega
theorem maskTo_bit (B : Nat → Bool) (d : Nat) : ∀ m : Nat, (maskTo m B).testBit d = (decide (d < m) && B d)
  | 0 => by
    rw [decide_eq_false (Nat.not_lt_zero d), Bool.false_and]
    exact Nat.zero_testBit d
  | m + 1 => by
    have ih := maskTo_bit B d m
    have lt := maskTo_lt B m
    have lt1 := maskTo_lt B (m + 1)
    by_cases c : d < m
    · rw [decide_eq_true (show d < m + 1 by omega), Bool.true_and]
      rw [decide_eq_true c, Bool.true_and] at ih
      rw [maskTo_succ]
      by_cases e : B m = true
      · rw [if_pos e, Nat.add_comm, Nat.testBit_two_pow_add_gt c]
        exact ih
      · rw [if_neg e]
        exact ih
    · by_cases c2 : d = m
      · subst c2
        rw [decide_eq_true (Nat.lt_succ_self d), Bool.true_and, maskTo_succ]
        by_cases e : B d = true
        · rw [if_pos e, Nat.add_comm, Nat.testBit_two_pow_add_eq, Nat.testBit_lt_two_pow lt, e]
          rfl
        · rw [if_neg e, Nat.add_zero, Nat.testBit_lt_two_pow lt]
          exact (Bool.eq_false_iff.mpr e).symm
      · rw [decide_eq_false (show ¬ d < m + 1 by omega), Bool.false_and]
        exact Nat.testBit_lt_two_pow (Nat.lt_of_lt_of_le lt1 (Nat.pow_le_pow_right (by decide) (by omega)))
theorem parts_is {n : Int} {f : List Int} {p : Nat} (hs : Sn90.sizeOk n = true) (h : Sn90.good n f p = true) : Sn90.parts p f = tog (Sn90.pieces p f) := by
  have hsum := pieces_sum hs h
  refine Nat.eq_of_testBit_eq fun d => ?_
  show (maskTo (f.length - 1 + 1) fun d => (Sn90.sums (Sn90.pieces p f)).contains d).testBit d = _
  rw [maskTo_bit]
  have ht := tog_is (Sn90.pieces p f) d
  by_cases c : d ∈ Sn90.sums (Sn90.pieces p f)
  · have hle := sums_le _ _ c
    rw [ht.mpr c, decide_eq_true (by omega), Bool.true_and]
    exact List.contains_iff_mem.mpr c
  · have e1 : (tog (Sn90.pieces p f)).testBit d = false := Bool.eq_false_iff.mpr fun z => c (ht.mp z)
    have e2 : (Sn90.sums (Sn90.pieces p f)).contains d = false := Bool.eq_false_iff.mpr fun z => c (List.contains_iff_mem.mp z)
    rw [e1, e2, Bool.and_false]
def spTogether (K : PySem.W.Frag) : Sp := fun vs H Q _ => ∃ (l : Addr) (ps : List Nat), vs = [.ref l] ∧ SqL K H l (ps.map vN) ∧ ps.sum ≤ 60 ∧ Q (.int (tog ps : Nat)) H
theorem scTogether : FnScope ["pieces", "found", "piece"] ["pieces"] (defScope sTogether) := ⟨rfl, rfl, rfl, by decide +kernel, rfl, by decide +kernel, by decide +kernel⟩
theorem ok_together {f : Addr} {fd : FuncData} (F : Fun K "lengths_together" "lengths_together" sTogether f fd) : FnOk P w K mg base CX0 1 f fd ["pieces"] (spTogether K) := by
  refine F.ok scTogether (fun vs H Q E h => ?_) (fun cdv A outer s H vs Q E hr h => ?_)
  · obtain ⟨l, ps, rfl, _⟩ := h
    rfl
  · obtain ⟨l, ps, rfl, hS, hsum, q⟩ := h
    refine ⟨_, pss_cons (ps_set (i := 1) scTogether.nd rfl (.inl rfl) pe_int)
      (pss_cons (ps_for PassesOwn.never rfl (pi_list (pv 0)) (pg_name (i := 2) scTogether.nd rfl (.inl rfl))
        (pss_one (ps_set (i := 1) scTogether.nd rfl (.inl rfl) (pe_op op_or (pv 1) (pe_op op_shl (pv 1) (pv 2))))))
      (pss_one (ps_ret (pv 1)))), ?_⟩
    refine ⟨_, rfl, l, rfl, ⟨_, hS⟩, for_list (K := K) (a := l) (xs := ps.map vN) (fun i σ H' => H' = H ∧ ∃ u, σ = [some (.ref l), some (.int (tog (ps.take i) : Nat)), u])
      ⟨rfl, none, rfl⟩ (fun i σ H' _ h => by rw [h.1]; exact hS) ?_ ?_⟩
    · rintro i y σ _ hi ⟨rfl, u, rfl⟩
      obtain ⟨x, hx, rfl⟩ := map_get hi
      have hxs := mem_le_sum ps x (List.mem_of_getElem? hx)
      have hts := sum_take_le ps i
      have hlt := tog_lt (ps.take i)
      have hb : tog (ps.take i) < 2 ^ 64 := Nat.lt_of_lt_of_le hlt (Nat.pow_le_pow_right (by decide) (by omega))
      refine ⟨_, rfl, _, rfl, _, rfl, _, _, rfl, rfl, ⟨by omega, by omega, by rw [Int.natAbs_natCast]; exact hb⟩, ?_⟩
      refine ⟨_, _, rfl, rfl, rfl, some (vN x), ?_⟩
      rw [take_snoc hx, tog_snoc]
      have e : ((tog (ps.take i) : Nat) : Int) * 2 ^ ((x : Nat) : Int).toNat = ((tog (ps.take i) * 2 ^ x : Nat) : Int) := by
        rw [Int.toNat_natCast, Int.natCast_mul, Int.natCast_pow]
        rfl
      have e2 : Builtin.bitOr ((tog (ps.take i) : Nat) : Int) (((tog (ps.take i) : Nat) : Int) * 2 ^ ((x : Nat) : Int).toNat) = ((tog (ps.take i) ||| tog (ps.take i) * 2 ^ x : Nat) : Int) := by
        rw [e, bitOr_nn (Int.natCast_nonneg _) (Int.natCast_nonneg _), Int.toNat_natCast, Int.toNat_natCast]
      rw [← e2]
      rfl
    · rintro σ _ ⟨rfl, u, rfl⟩
      rw [List.length_map, List.take_length]
      exact ⟨_, rfl, q⟩
theorem parts_ref {n p : Int} {f : List Int} (h : refusal n p.toNat f < 0) : PySn90.parts n p f = [refusal n p.toNat f] := by
  show (if Sn90.sizeOk n = false then Sn90.ok (-2) else if Sn90.good n f p.toNat = false then Sn90.ok (-3) else Sn90.ok (Sn90.parts p.toNat f : Nat) : Sn90.Ans).v ::
    (if Sn90.sizeOk n = false then Sn90.ok (-2) else if Sn90.good n f p.toNat = false then Sn90.ok (-3) else Sn90.ok (Sn90.parts p.toNat f : Nat) : Sn90.Ans).l = _
  unfold refusal at h ⊢
  by_cases c1 : Sn90.sizeOk n = false
  · rw [if_pos c1, if_pos c1]
    rfl
  · rw [if_neg c1, if_neg c1] at *
    by_cases c2 : Sn90.good n f p.toNat = false
    · rw [if_pos c2, if_pos c2]
      rfl
    · rw [if_neg c2] at h
      exact absurd h (by decide)
theorem parts_ok {n p : Int} {f : List Int} (h1 : Sn90.sizeOk n = true) (h2 : Sn90.good n f p.toNat = true) : PySn90.parts n p f = [((Sn90.parts p.toNat f : Nat) : Int)] := by
  show (if Sn90.sizeOk n = false then Sn90.ok (-2) else if Sn90.good n f p.toNat = false then Sn90.ok (-3) else Sn90.ok (Sn90.parts p.toNat f : Nat) : Sn90.Ans).v ::
    (if Sn90.sizeOk n = false then Sn90.ok (-2) else if Sn90.good n f p.toNat = false then Sn90.ok (-3) else Sn90.ok (Sn90.parts p.toNat f : Nat) : Sn90.Ans).l = _
  rw [h1, h2, if_neg (by decide), if_neg (by decide)]
  rfl
def spParts (K : PySem.W.Frag) : Sp := fun vs H Q _ => ∃ (n p : Int) (a : Addr) (f : List Int), vs = [.int n, .int p, .ref a] ∧ SqL K H a (f.map V.int) ∧ 0 ≤ p ∧ (1 ≤ n → n ≤ 24 → f.length = n.toNat + 1) ∧
  ∀ (H' : Hp) (r : Addr), H' r = some (.lst ((PySn90.parts n p f).map V.int)) → Q (.ref r) H'
theorem scParts : FnScope ["n", "p", "f", "refusal"] ["n", "p", "f"] (defScope sParts) := ⟨rfl, rfl, rfl, by decide +kernel, rfl, by decide +kernel, by decide +kernel⟩
theorem ok_parts {f : Addr} {fd : FuncData} (F : Fun K "parts" "parts" sParts f fd) (C1 : Cl P w K mg base 3 "refusal_of" ["n", "p", "f"] (spRefusal K)) (C2 : Cl P w K mg base 5 "all_pieces" ["p", "f"] (spAllPieces K))
    (C3 : Cl P w K mg base 1 "lengths_together" ["pieces"] (spTogether K)) : FnOk P w K mg base CX0 6 f fd ["n", "p", "f"] (spParts K) := by
  obtain ⟨f1, d1, G1, m1, k1, b1⟩ := C1
  obtain ⟨f2, d2, G2, m2, k2, b2⟩ := C2
  obtain ⟨f3, d3, G3, m3, k3, b3⟩ := C3
  refine F.ok scParts (fun vs H Q E h => ?_) (fun cdv A outer s H vs Q E hr h => ?_)
  · obtain ⟨n, p, a, f, rfl, _⟩ := h
    rfl
  · obtain ⟨n, p, a, f, rfl, hS, hp, hl, q⟩ := h
    obtain ⟨p, rfl⟩ : ∃ m : Nat, p = m := ⟨p.toNat, by omega⟩
    refine ⟨_, pss_cons (ps_set (i := 3) scParts.nd rfl (.inl rfl) (pe_call G1 (hr.mono (by decide)) rfl m1 k1 b1 .nil pass0 (pa_cons (pv 0) (pa_cons (pv 1) (pa_cons (pv 2) pa_nil)))))
      (pss_cons (ps_if (pt_cmpR op_lt (pv 3) pe_int (nomark _)) (pss_one (ps_ret (pe_lst (pa_cons (pv 3) pa_nil)))) pss_nil)
      (pss_one (ps_ret (pe_lst (pa_cons (pe_call G3 (hr.mono (by decide)) rfl m3 k3 b3 .nil pass0 (pa_cons (pe_call G2 hr rfl m2 k2 b2 .nil pass0 (pa_cons (pv 1) (pa_cons (pv 2) pa_nil))) pa_nil)) pa_nil))))), ?_⟩
    refine ⟨_, rfl, _, rfl, _, rfl, n, p, a, f, rfl, hS, hl, ?_⟩
    refine ⟨_, rfl, _, _, rfl, rfl, _, rfl, ?_⟩
    by_cases c : refusal n p f < 0
    · refine if_true_of (decide_eq_true c) ?_
      refine ⟨_, rfl, (by show 1 ≤ sizeLine; decide), fun r hr => q _ r ?_⟩
      rw [upd_same, parts_ref (by rw [Int.toNat_natCast]; exact c), Int.toNat_natCast]
      rfl
    refine if_false_of (decide_eq_false c) ?_
    obtain ⟨g1, g2⟩ := refusal_zero c
    have hsum := pieces_sum g1 g2
    obtain ⟨⟨n1, n2⟩, hlen, h0, he, hpr⟩ := good_says g1 g2
    refine ⟨_, rfl, _, rfl, n, p, a, f, rfl, hS, g1, g2, fun H1 m s1 hm0 hm1 => ?_⟩
    refine ⟨m, _, rfl, SqL.of hm1, by omega, (by show 1 ≤ sizeLine; decide), fun r hr => q _ r ?_⟩
    rw [upd_same, parts_ok g1 (by rw [Int.toNat_natCast]; exact g2), Int.toNat_natCast, parts_is g1 g2]
    rfl
/-! what the row asks of n and f -/
theorem asked_len {n p : Int} {f : List Int} (h : PySn90.parts_asked n p f = true) : 1 ≤ n → n ≤ 24 → f.length = n.toNat + 1 := by
  intro h1 h2
  have h' : (([[[3, n, p], f]].all Sn90Neutral.asked1) && (decide (1 ≤ [[[3, n, p], f]].length) && decide ([[[3, n, p], f]].length ≤ 400))) = true := h
  rw [Bool.and_eq_true] at h'
  have h3 := h'.1
  rw [List.all_cons, Bool.and_eq_true] at h3
  have h4 : (Sn90Neutral.whole32 n && (Sn90Neutral.natural p 32 && (f.all (fun (z : Int) => decide (-(2 ^ 63) ≤ z) && decide (z < 2 ^ 63)) && (decide ((f.length : Int) = if 1 ≤ n ∧ n ≤ 24 then n + 1 else 0))))) = true := h3.1
  rw [Bool.and_eq_true, Bool.and_eq_true, Bool.and_eq_true] at h4
  have h5 := of_decide_eq_true h4.2.2.2
  rw [if_pos ⟨h1, h2⟩] at h5
  omega
theorem all_mk {P : Program} {w : World} {K : PySem.W.Frag} {h : Heap} {mg : Str → Option Value} {fa C f0 f1 f2 f3 f4 f5 f6 f7 f8 f9 f10 f11 f12 f13 f14 f15 f16 f17 : Addr} (X : K.In h) (G : h.Ns mainGlobals mg) (hfa : mg "parts" = some (.ref fa))
    {od0 an0 od1 an1 od2 an2 od3 an3 od4 an4 od5 an5 od6 an6 od7 an7 od8 an8 od9 an9 od10 an10 od11 an11 od12 an12 od13 an13 od14 an14 od15 an15 od16 an16 od17 an17 : Option Addr} {sl0 sl1 sl2 sl3 sl4 sl5 sl6 sl7 sl8 sl9 sl10 sl11 sl12 sl13 sl14 sl15 sl16 sl17 : Array (Option Value)} {oc0 kV0 dc0 pm0 cd0 ct0 oc1 kV1 dc1 pm1 cd1 ct1 oc2 kV2 dc2 pm2 cd2 ct2 oc3 kV3 dc3 pm3 cd3 ct3 oc4 kV4 dc4 pm4 cd4 ct4 oc5 kV5 dc5 pm5 cd5 ct5 oc6 kV6 dc6 pm6 cd6 ct6 oc7 kV7 dc7 pm7 cd7 ct7 oc8 kV8 dc8 pm8 cd8 ct8 oc9 kV9 dc9 pm9 cd9 ct9 oc10 kV10 dc10 pm10 cd10 ct10 oc11 kV11 dc11 pm11 cd11 ct11 oc12 kV12 dc12 pm12 cd12 ct12 oc13 kV13 dc13 pm13 cd13 ct13 oc14 kV14 dc14 pm14 cd14 ct14 oc15 kV15 dc15 pm15 cd15 ct15 oc16 kV16 dc16 pm16 cd16 ct16 oc17 kV17 dc17 pm17 cd17 ct17 : Value}
    {t_BEYOND t_MOST_DEGREE t_NO_DEGREE t_NOT_SO : Tok}
    (aC : PySem.W.nsIn K mainGlobals "Point" = some (some (.ref C)))
    (a0 : PySem.W.findIn K (.ref C) "__init__" = some (some (.ref f0)))
    (i0 : PySem.W.isFn K (.ref f0) = true)
    (l0 : K.lookup f0 = some ⟨oc0, od0, .func (PySem.W.fnOf "__init__" "Point.__init__" (defArgs sInit) (defBody sInit) (defScope sInit) .none kV0 dc0 pm0 an0 cd0 ct0), sl0⟩)
    (c0 : PySem.W.codeIn K cd0 "Point.__init__" = true)
    (k0 : PySem.W.keepIn K (.ref f0) = true)
    (a1 : PySem.W.nsIn K mainGlobals "divides" = some (some (.ref f1)))
    (l1 : K.lookup f1 = some ⟨oc1, od1, .func (PySem.W.fnOf "divides" "divides" (defArgs sDivides) (defBody sDivides) (defScope sDivides) .none kV1 dc1 pm1 an1 cd1 ct1), sl1⟩)
    (c1 : PySem.W.codeIn K cd1 "divides" = true)
    (k1 : PySem.W.keepIn K (.ref f1) = true)
    (a2 : PySem.W.nsIn K mainGlobals "is_prime" = some (some (.ref f2)))
    (l2 : K.lookup f2 = some ⟨oc2, od2, .func (PySem.W.fnOf "is_prime" "is_prime" (defArgs sIsPrime) (defBody sIsPrime) (defScope sIsPrime) .none kV2 dc2 pm2 an2 cd2 ct2), sl2⟩)
    (c2 : PySem.W.codeIn K cd2 "is_prime" = true)
    (k2 : PySem.W.keepIn K (.ref f2) = true)
    (a3 : PySem.W.nsIn K mainGlobals "height_of" = some (some (.ref f3)))
    (l3 : K.lookup f3 = some ⟨oc3, od3, .func (PySem.W.fnOf "height_of" "height_of" (defArgs sHeightOf) (defBody sHeightOf) (defScope sHeightOf) .none kV3 dc3 pm3 an3 cd3 ct3), sl3⟩)
    (c3 : PySem.W.codeIn K cd3 "height_of" = true)
    (k3 : PySem.W.keepIn K (.ref f3) = true)
    (a4 : PySem.W.nsIn K mainGlobals "common_divisor" = some (some (.ref f4)))
    (l4 : K.lookup f4 = some ⟨oc4, od4, .func (PySem.W.fnOf "common_divisor" "common_divisor" (defArgs sGcd) (defBody sGcd) (defScope sGcd) .none kV4 dc4 pm4 an4 cd4 ct4), sl4⟩)
    (c4 : PySem.W.codeIn K cd4 "common_divisor" = true)
    (k4 : PySem.W.keepIn K (.ref f4) = true)
    (a5 : PySem.W.nsIn K mainGlobals "points_of" = some (some (.ref f5)))
    (l5 : K.lookup f5 = some ⟨oc5, od5, .func (PySem.W.fnOf "points_of" "points_of" (defArgs sPointsOf) (defBody sPointsOf) (defScope sPointsOf) .none kV5 dc5 pm5 an5 cd5 ct5), sl5⟩)
    (c5 : PySem.W.codeIn K cd5 "points_of" = true)
    (k5 : PySem.W.keepIn K (.ref f5) = true)
    (a6 : PySem.W.nsIn K mainGlobals "run_of" = some (some (.ref f6)))
    (l6 : K.lookup f6 = some ⟨oc6, od6, .func (PySem.W.fnOf "run_of" "run_of" (defArgs sRunOf) (defBody sRunOf) (defScope sRunOf) .none kV6 dc6 pm6 an6 cd6 ct6), sl6⟩)
    (c6 : PySem.W.codeIn K cd6 "run_of" = true)
    (k6 : PySem.W.keepIn K (.ref f6) = true)
    (a7 : PySem.W.nsIn K mainGlobals "rise_of" = some (some (.ref f7)))
    (l7 : K.lookup f7 = some ⟨oc7, od7, .func (PySem.W.fnOf "rise_of" "rise_of" (defArgs sRiseOf) (defBody sRiseOf) (defScope sRiseOf) .none kV7 dc7 pm7 an7 cd7 ct7), sl7⟩)
    (c7 : PySem.W.codeIn K cd7 "rise_of" = true)
    (k7 : PySem.W.keepIn K (.ref f7) = true)
    (a8 : PySem.W.nsIn K mainGlobals "is_no_steeper" = some (some (.ref f8)))
    (l8 : K.lookup f8 = some ⟨oc8, od8, .func (PySem.W.fnOf "is_no_steeper" "is_no_steeper" (defArgs sSteep) (defBody sSteep) (defScope sSteep) .none kV8 dc8 pm8 an8 cd8 ct8), sl8⟩)
    (c8 : PySem.W.codeIn K cd8 "is_no_steeper" = true)
    (k8 : PySem.W.keepIn K (.ref f8) = true)
    (a9 : PySem.W.nsIn K mainGlobals "next_corner" = some (some (.ref f9)))
    (l9 : K.lookup f9 = some ⟨oc9, od9, .func (PySem.W.fnOf "next_corner" "next_corner" (defArgs sNext) (defBody sNext) (defScope sNext) .none kV9 dc9 pm9 an9 cd9 ct9), sl9⟩)
    (c9 : PySem.W.codeIn K cd9 "next_corner" = true)
    (k9 : PySem.W.keepIn K (.ref f9) = true)
    (a10 : PySem.W.nsIn K mainGlobals "points_behind" = some (some (.ref f10)))
    (l10 : K.lookup f10 = some ⟨oc10, od10, .func (PySem.W.fnOf "points_behind" "points_behind" (defArgs sBehind) (defBody sBehind) (defScope sBehind) .none kV10 dc10 pm10 an10 cd10 ct10), sl10⟩)
    (c10 : PySem.W.codeIn K cd10 "points_behind" = true)
    (k10 : PySem.W.keepIn K (.ref f10) = true)
    (a11 : PySem.W.nsIn K mainGlobals "corners_of" = some (some (.ref f11)))
    (l11 : K.lookup f11 = some ⟨oc11, od11, .func (PySem.W.fnOf "corners_of" "corners_of" (defArgs sCornersOf) (defBody sCornersOf) (defScope sCornersOf) .none kV11 dc11 pm11 an11 cd11 ct11), sl11⟩)
    (c11 : PySem.W.codeIn K cd11 "corners_of" = true)
    (k11 : PySem.W.keepIn K (.ref f11) = true)
    (a12 : PySem.W.nsIn K mainGlobals "pieces_between" = some (some (.ref f12)))
    (l12 : K.lookup f12 = some ⟨oc12, od12, .func (PySem.W.fnOf "pieces_between" "pieces_between" (defArgs sBetween) (defBody sBetween) (defScope sBetween) .none kV12 dc12 pm12 an12 cd12 ct12), sl12⟩)
    (c12 : PySem.W.codeIn K cd12 "pieces_between" = true)
    (k12 : PySem.W.keepIn K (.ref f12) = true)
    (a13 : PySem.W.nsIn K mainGlobals "pieces_of" = some (some (.ref f13)))
    (l13 : K.lookup f13 = some ⟨oc13, od13, .func (PySem.W.fnOf "pieces_of" "pieces_of" (defArgs sPiecesOf) (defBody sPiecesOf) (defScope sPiecesOf) .none kV13 dc13 pm13 an13 cd13 ct13), sl13⟩)
    (c13 : PySem.W.codeIn K cd13 "pieces_of" = true)
    (k13 : PySem.W.keepIn K (.ref f13) = true)
    (a14 : PySem.W.nsIn K mainGlobals "lengths_together" = some (some (.ref f14)))
    (l14 : K.lookup f14 = some ⟨oc14, od14, .func (PySem.W.fnOf "lengths_together" "lengths_together" (defArgs sTogether) (defBody sTogether) (defScope sTogether) .none kV14 dc14 pm14 an14 cd14 ct14), sl14⟩)
    (c14 : PySem.W.codeIn K cd14 "lengths_together" = true)
    (k14 : PySem.W.keepIn K (.ref f14) = true)
    (a15 : PySem.W.nsIn K mainGlobals "refusal_of" = some (some (.ref f15)))
    (l15 : K.lookup f15 = some ⟨oc15, od15, .func (PySem.W.fnOf "refusal_of" "refusal_of" (defArgs sRefusal) (defBody sRefusal) (defScope sRefusal) .none kV15 dc15 pm15 an15 cd15 ct15), sl15⟩)
    (c15 : PySem.W.codeIn K cd15 "refusal_of" = true)
    (k15 : PySem.W.keepIn K (.ref f15) = true)
    (a16 : PySem.W.nsIn K mainGlobals "all_pieces" = some (some (.ref f16)))
    (l16 : K.lookup f16 = some ⟨oc16, od16, .func (PySem.W.fnOf "all_pieces" "all_pieces" (defArgs sAllPieces) (defBody sAllPieces) (defScope sAllPieces) .none kV16 dc16 pm16 an16 cd16 ct16), sl16⟩)
    (c16 : PySem.W.codeIn K cd16 "all_pieces" = true)
    (k16 : PySem.W.keepIn K (.ref f16) = true)
    (a17 : PySem.W.nsIn K mainGlobals "parts" = some (some (.ref f17)))
    (l17 : K.lookup f17 = some ⟨oc17, od17, .func (PySem.W.fnOf "parts" "parts" (defArgs sParts) (defBody sParts) (defScope sParts) .none kV17 dc17 pm17 an17 cd17 ct17), sl17⟩)
    (c17 : PySem.W.codeIn K cd17 "parts" = true)
    (k17 : PySem.W.keepIn K (.ref f17) = true)
    (z_range : PySem.W.nsIn K mainGlobals "range" = some none)
    (g_BEYOND : PySem.W.nsIn K mainGlobals "BEYOND" = some (some (.int 65536 t_BEYOND)))
    (z_enumerate : PySem.W.nsIn K mainGlobals "enumerate" = some none)
    (z_len : PySem.W.nsIn K mainGlobals "len" = some none)
    (z_abs : PySem.W.nsIn K mainGlobals "abs" = some none)
    (g_MOST_DEGREE : PySem.W.nsIn K mainGlobals "MOST_DEGREE" = some (some (.int 24 t_MOST_DEGREE)))
    (g_NO_DEGREE : PySem.W.nsIn K mainGlobals "NO_DEGREE" = some (some (.int (-2) t_NO_DEGREE)))
    (g_NOT_SO : PySem.W.nsIn K mainGlobals "NOT_SO" = some (some (.int (-3) t_NOT_SO)))
    (pg : PySem.W.plainGet K C Str.empty = true)
    (hd : PySem.W.hasDictIn K C = true)
    (po : PySem.W.plainOver K C = true)
    (sa : PySem.W.findIn K (.ref C) "__setattr__" = some (some (.builtin "object.__setattr__")))
    (mk : PySem.W.makesIn K C = true)
    (kc : PySem.W.keepIn K (.ref C) = true)
    (nP : PySem.W.findIn K (.ref C) "place" = some none)
    (nH : PySem.W.findIn K (.ref C) "height" = some none)
    : ∃ fd : FuncData, (∀ (s : Shared) (us : List Value), us.length = (["n", "p", "f"] : List Str).length → BindsTo s fd ⟨us, []⟩ ((["n", "p", "f"] : List Str).zip us)) ∧ ∀ base : Heap, K.In base → base.Ns mainGlobals mg → FnOk P w K mg base CX0 6 fa fd ["n", "p", "f"] (spParts K) := by
  have e := hfa.symm.trans (PySem.W.mg_of X G a17)
  cases e
  have T : PtTxt K mg C := ⟨⟨pg, hd, po, sa⟩, nP, nH, PySem.W.mg_of X G aC⟩
  have F0 := fun_mk (st := sInit) l0 c0 k0
  have b0 := F0.binds (ps := ["self", "place", "height"]) fun _ _ _ _ _ _ us hl => match us, hl with | [_, _, _], _ => rfl
  have F1 := fun_mk (st := sDivides) l1 c1 k1
  have b1 := F1.binds (ps := ["p", "number"]) fun _ _ _ _ _ _ us hl => match us, hl with | [_, _], _ => rfl
  have F2 := fun_mk (st := sIsPrime) l2 c2 k2
  have b2 := F2.binds (ps := ["p"]) fun _ _ _ _ _ _ us hl => match us, hl with | [_], _ => rfl
  have F3 := fun_mk (st := sHeightOf) l3 c3 k3
  have b3 := F3.binds (ps := ["p", "number"]) fun _ _ _ _ _ _ us hl => match us, hl with | [_, _], _ => rfl
  have F4 := fun_mk (st := sGcd) l4 c4 k4
  have b4 := F4.binds (ps := ["one", "other"]) fun _ _ _ _ _ _ us hl => match us, hl with | [_, _], _ => rfl
  have F5 := fun_mk (st := sPointsOf) l5 c5 k5
  have b5 := F5.binds (ps := ["p", "f"]) fun _ _ _ _ _ _ us hl => match us, hl with | [_, _], _ => rfl
  have F6 := fun_mk (st := sRunOf) l6 c6 k6
  have b6 := F6.binds (ps := ["start", "end"]) fun _ _ _ _ _ _ us hl => match us, hl with | [_, _], _ => rfl
  have F7 := fun_mk (st := sRiseOf) l7 c7 k7
  have b7 := F7.binds (ps := ["start", "end"]) fun _ _ _ _ _ _ us hl => match us, hl with | [_, _], _ => rfl
  have F8 := fun_mk (st := sSteep) l8 c8 k8
  have b8 := F8.binds (ps := ["start", "one", "other"]) fun _ _ _ _ _ _ us hl => match us, hl with | [_, _, _], _ => rfl
  have F9 := fun_mk (st := sNext) l9 c9 k9
  have b9 := F9.binds (ps := ["start", "points"]) fun _ _ _ _ _ _ us hl => match us, hl with | [_, _], _ => rfl
  have F10 := fun_mk (st := sBehind) l10 c10 k10
  have b10 := F10.binds (ps := ["points", "start"]) fun _ _ _ _ _ _ us hl => match us, hl with | [_, _], _ => rfl
  have F11 := fun_mk (st := sCornersOf) l11 c11 k11
  have b11 := F11.binds (ps := ["points"]) fun _ _ _ _ _ _ us hl => match us, hl with | [_], _ => rfl
  have F12 := fun_mk (st := sBetween) l12 c12 k12
  have b12 := F12.binds (ps := ["start", "end"]) fun _ _ _ _ _ _ us hl => match us, hl with | [_, _], _ => rfl
  have F13 := fun_mk (st := sPiecesOf) l13 c13 k13
  have b13 := F13.binds (ps := ["corners"]) fun _ _ _ _ _ _ us hl => match us, hl with | [_], _ => rfl
  have F14 := fun_mk (st := sTogether) l14 c14 k14
  have b14 := F14.binds (ps := ["pieces"]) fun _ _ _ _ _ _ us hl => match us, hl with | [_], _ => rfl
  have F15 := fun_mk (st := sRefusal) l15 c15 k15
  have b15 := F15.binds (ps := ["n", "p", "f"]) fun _ _ _ _ _ _ us hl => match us, hl with | [_, _, _], _ => rfl
  have F16 := fun_mk (st := sAllPieces) l16 c16 k16
  have b16 := F16.binds (ps := ["p", "f"]) fun _ _ _ _ _ _ us hl => match us, hl with | [_, _], _ => rfl
  have F17 := fun_mk (st := sParts) l17 c17 k17
  refine ⟨PySem.W.fnOf "parts" "parts" (defArgs sParts) (defBody sParts) (defScope sParts) .none kV17 dc17 pm17 an17 cd17 ct17, fun s us hu => match us, hu with | [_, _, _], _ => .of_eq rfl, fun base _ _ => ?_⟩
  have CP : PtMk P w K mg base C := ⟨T, f0, _, ⟨mk, a0, i0, kc⟩, ok_init F0 T, b0⟩
  have D1 : Cl P w K mg base 1 "divides" ["p", "number"] (spDivides) := ⟨f1, _, ok_divides F1 , PySem.W.mg_of X G a1, k1, b1⟩
  have D2 : Cl P w K mg base 2 "is_prime" ["p"] (spIsPrime) := ⟨f2, _, ok_is_prime F2 (PySem.W.mg_none_of X G z_range) (PySem.W.mg_of X G g_BEYOND) D1, PySem.W.mg_of X G a2, k2, b2⟩
  have D3 : Cl P w K mg base 2 "height_of" ["p", "number"] (spHeightOf) := ⟨f3, _, ok_height_of F3 D1, PySem.W.mg_of X G a3, k3, b3⟩
  have D4 : Cl P w K mg base 1 "common_divisor" ["one", "other"] (spGcd) := ⟨f4, _, ok_gcd F4 , PySem.W.mg_of X G a4, k4, b4⟩
  have D5 : Cl P w K mg base 3 "points_of" ["p", "f"] (spPointsOf C K) := ⟨f5, _, ok_points_of F5 CP (PySem.W.mg_none_of X G z_enumerate) D3, PySem.W.mg_of X G a5, k5, b5⟩
  have D6 : Cl P w K mg base 1 "run_of" ["start", "end"] (spRunOf C) := ⟨f6, _, ok_run_of F6 T, PySem.W.mg_of X G a6, k6, b6⟩
  have D7 : Cl P w K mg base 1 "rise_of" ["start", "end"] (spRiseOf C) := ⟨f7, _, ok_rise_of F7 T, PySem.W.mg_of X G a7, k7, b7⟩
  have D8 : Cl P w K mg base 2 "is_no_steeper" ["start", "one", "other"] (spSteep C) := ⟨f8, _, ok_steep F8 D6 D7, PySem.W.mg_of X G a8, k8, b8⟩
  have D9 : Cl P w K mg base 3 "next_corner" ["start", "points"] (spNext C K) := ⟨f9, _, ok_next F9 D8, PySem.W.mg_of X G a9, k9, b9⟩
  have D10 : Cl P w K mg base 1 "points_behind" ["points", "start"] (spBehind C K) := ⟨f10, _, ok_behind F10 T, PySem.W.mg_of X G a10, k10, b10⟩
  have D11 : Cl P w K mg base 4 "corners_of" ["points"] (spCornersOf C K) := ⟨f11, _, ok_corners_of F11 (PySem.W.mg_none_of X G z_len) D9 D10, PySem.W.mg_of X G a11, k11, b11⟩
  have D12 : Cl P w K mg base 2 "pieces_between" ["start", "end"] (spBetween C) := ⟨f12, _, ok_between F12 (PySem.W.mg_none_of X G z_abs) D4 D6 D7, PySem.W.mg_of X G a12, k12, b12⟩
  have D13 : Cl P w K mg base 3 "pieces_of" ["corners"] (spPiecesOf C K) := ⟨f13, _, ok_pieces_of F13 (PySem.W.mg_none_of X G z_range) (PySem.W.mg_none_of X G z_len) D12, PySem.W.mg_of X G a13, k13, b13⟩
  have D14 : Cl P w K mg base 1 "lengths_together" ["pieces"] (spTogether K) := ⟨f14, _, ok_together F14 , PySem.W.mg_of X G a14, k14, b14⟩
  have D15 : Cl P w K mg base 3 "refusal_of" ["n", "p", "f"] (spRefusal K) := ⟨f15, _, ok_refusal F15 (PySem.W.mg_of X G g_MOST_DEGREE) (PySem.W.mg_of X G g_NO_DEGREE) (PySem.W.mg_of X G g_NOT_SO) D2, PySem.W.mg_of X G a15, k15, b15⟩
  have D16 : Cl P w K mg base 5 "all_pieces" ["p", "f"] (spAllPieces K) := ⟨f16, _, ok_all_pieces F16 D5 D11 D13, PySem.W.mg_of X G a16, k16, b16⟩
  exact ok_parts F17 D15 D16 D14
end My
open PySem PySem.W PyProof.Rows
set_option maxRecDepth 100000 in
set_option maxHeartbeats 8000000 in
theorem PySem.Challenge.cw_unparted_s04_parts_holds : PySem.Challenge.rw_unparted_s04_parts.Holds := by
  w_on; k_headS; (case hw => exact ⟨[.int 0, .int 0, .list []], by decide +kernel, by decide +kernel⟩)
  k_fillS
  refine L2.walk_specK (r := PySem.Challenge.rw_unparted_s04_parts) (k := 6) (CX := L2.CX0) (ps := ["n", "p", "f"]) (sp := My.spParts) (by decide +kernel) rfl rfl ⟨rfl, by decide, by decide⟩ (fun w h Y => PySem.W.kIn_of Y) ?F ?S (fun _ _ _ _ z => z)
  case F =>
    intro w mg fa h Y KX G hmg
    refine' My.all_mk KX G hmg ?aC ?a0 ?i0 ?l0 ?c0 ?k0 ?a1 ?l1 ?c1 ?k1 ?a2 ?l2 ?c2 ?k2 ?a3 ?l3 ?c3 ?k3 ?a4 ?l4 ?c4 ?k4 ?a5 ?l5 ?c5 ?k5 ?a6 ?l6 ?c6 ?k6 ?a7 ?l7 ?c7 ?k7 ?a8 ?l8 ?c8 ?k8 ?a9 ?l9 ?c9 ?k9 ?a10 ?l10 ?c10 ?k10 ?a11 ?l11 ?c11 ?k11 ?a12 ?l12 ?c12 ?k12 ?a13 ?l13 ?c13 ?k13 ?a14 ?l14 ?c14 ?k14 ?a15 ?l15 ?c15 ?k15 ?a16 ?l16 ?c16 ?k16 ?a17 ?l17 ?c17 ?k17 ?z_range ?g_BEYOND ?z_enumerate ?z_len ?z_abs ?g_MOST_DEGREE ?g_NO_DEGREE ?g_NOT_SO ?pg ?hd ?po ?sa ?mk ?kc ?nP ?nH
    (case aC => k_is)
    (case a0 => k_is)
    (case i0 => k_is)
    (case l0 => k_is)
    (case c0 => k_is)
    (case k0 => k_is)
    (case a1 => k_is)
    (case l1 => k_is)
    (case c1 => k_is)
    (case k1 => k_is)
    (case a2 => k_is)
    (case l2 => k_is)
    (case c2 => k_is)
    (case k2 => k_is)
    (case a3 => k_is)
    (case l3 => k_is)
    (case c3 => k_is)
    (case k3 => k_is)
    (case a4 => k_is)
    (case l4 => k_is)
    (case c4 => k_is)
    (case k4 => k_is)
    (case a5 => k_is)
    (case l5 => k_is)
    (case c5 => k_is)
    (case k5 => k_is)
    (case a6 => k_is)
    (case l6 => k_is)
    (case c6 => k_is)
    (case k6 => k_is)
    (case a7 => k_is)
    (case l7 => k_is)
    (case c7 => k_is)
    (case k7 => k_is)
    (case a8 => k_is)
    (case l8 => k_is)
    (case c8 => k_is)
    (case k8 => k_is)
    (case a9 => k_is)
    (case l9 => k_is)
    (case c9 => k_is)
    (case k9 => k_is)
    (case a10 => k_is)
    (case l10 => k_is)
    (case c10 => k_is)
    (case k10 => k_is)
    (case a11 => k_is)
    (case l11 => k_is)
    (case c11 => k_is)
    (case k11 => k_is)
    (case a12 => k_is)
    (case l12 => k_is)
    (case c12 => k_is)
    (case k12 => k_is)
    (case a13 => k_is)
    (case l13 => k_is)
    (case c13 => k_is)
    (case k13 => k_is)
    (case a14 => k_is)
    (case l14 => k_is)
    (case c14 => k_is)
    (case k14 => k_is)
    (case a15 => k_is)
    (case l15 => k_is)
    (case c15 => k_is)
    (case k15 => k_is)
    (case a16 => k_is)
    (case l16 => k_is)
    (case c16 => k_is)
    (case k16 => k_is)
    (case a17 => k_is)
    (case l17 => k_is)
    (case c17 => k_is)
    (case k17 => k_is)
    (case z_range => k_is)
    (case g_BEYOND => k_is)
    (case z_enumerate => k_is)
    (case z_len => k_is)
    (case z_abs => k_is)
    (case g_MOST_DEGREE => k_is)
    (case g_NO_DEGREE => k_is)
    (case g_NOT_SO => k_is)
    (case pg => k_is)
    (case hd => k_is)
    (case po => k_is)
    (case sa => k_is)
    (case mk => k_is)
    (case kc => k_is)
    (case nP => k_is)
    (case nH => k_is)
  case S =>
    intro K H xs a hO hwi hask hx
    cases hx with
    | cons h1 h2 =>
      cases h2 with
      | cons h2 h3 =>
        cases h3 with
        | cons h3 h4 =>
          cases h4
          cases h1 with
          | int _ =>
            cases h2 with
            | int _ =>
              cases h3 with
              | lst hs ha =>
                have e := L2.ints_dw a.2.2.1 _ ha
                subst e
                have q : ((Codec.inInt (-2147483648) 2147483647 a.1) && ((Codec.inInt 0 4294967295 a.2.1) && ((Codec.inLen 0 25 a.2.2.1 && a.2.2.1.all (Codec.inInt (-9223372036854775808) 9223372036854775807)) && true))) = true := hwi
                rw [Bool.and_eq_true, Bool.and_eq_true] at q
                have q1 : (0 : Int) ≤ a.2.1 := by
                  have q2 := q.2.1
                  unfold Codec.inInt at q2
                  rw [Bool.and_eq_true] at q2
                  exact of_decide_eq_true q2.1
                exact ⟨a.1, a.2.1, _, a.2.2.1, rfl, hs, q1, My.asked_len hask, fun H' p hp => .lst (L2.SqL.of hp) (L2.dw_ints _)⟩
#print axioms PySem.Challenge.cw_unparted_s04_parts_holds
