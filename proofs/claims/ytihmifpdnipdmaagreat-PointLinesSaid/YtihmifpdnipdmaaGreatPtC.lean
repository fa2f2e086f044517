/-
  The points of the program, part C: Mirror, Round, Small, coordinate, Grid. Plain theorems; no condition.
-/
import Derived.Test.YtihmifpdnipdmaaGreatPtB
set_option linter.all false
namespace Go.Gm
open Go.Proofs

theorem foot_sz {p a b : Rat × Rat} (hp : Sp 201 p) (ha : Sp 201 a) (hb : Sp 201 b) : Sp 4000 (footQ p a b) := by
  have w1 := (hb.1.sub ha.1)
  have w2 := (hb.2.sub ha.2)
  have v1 := (hp.1.sub ha.1)
  have v2 := (hp.2.sub ha.2)
  have n := (v1.mul w1).add (v2.mul w2)
  have d := (w1.mul w1).add (w2.mul w2)
  have t := n.div d
  exact (ha.on hb t).mono (by decide)

def TPtC : Table := [(8, sFoot)] ++ TPtB
theorem TPtC_ok : TabOk TPtC := TabOk.append (TabOk.cons ok_Foot TabOk.nil) TPtB_ok
set_option maxHeartbeats 2000000 in
theorem ok_Mirror : Ok1 10 sMirror := by
  refine ok_of TPtC_ok Tryz.func10 rfl (by kernel_rfl) ?_
  intro xs pre res h hp hlim
  unfold sMirror at h
  split at h
  · rename_i s0 l0 t0 z0 k0 u0 s1 l1 t1 z1 k1 u1 s2 l2 t2 z2 k2 u2
    cases h
    obtain ⟨hl0, ht0, hk0, hu0, hl1, ht1, hk1, hu1, hl2, ht2, hk2, hu2⟩ := hp
    have Ll0 : Lim l0 := hlim.1.2.1
    have Lt0 : Lim t0 := hlim.1.2.2.1
    have iX0 : Szc (rq s0 l0 t0) 201 := ⟨Sz.rq Ll0 Lt0 hl0 ht0⟩
    have Lk0 : Lim k0 := hlim.1.2.2.2.2.1
    have Lu0 : Lim u0 := hlim.1.2.2.2.2.2.1
    have iY0 : Szc (rq z0 k0 u0) 201 := ⟨Sz.rq Lk0 Lu0 hk0 hu0⟩
    have Ll1 : Lim l1 := hlim.2.1.2.1
    have Lt1 : Lim t1 := hlim.2.1.2.2.1
    have iX1 : Szc (rq s1 l1 t1) 201 := ⟨Sz.rq Ll1 Lt1 hl1 ht1⟩
    have Lk1 : Lim k1 := hlim.2.1.2.2.2.2.1
    have Lu1 : Lim u1 := hlim.2.1.2.2.2.2.2.1
    have iY1 : Szc (rq z1 k1 u1) 201 := ⟨Sz.rq Lk1 Lu1 hk1 hu1⟩
    have Ll2 : Lim l2 := hlim.2.2.1.2.1
    have Lt2 : Lim t2 := hlim.2.2.1.2.2.1
    have iX2 : Szc (rq s2 l2 t2) 201 := ⟨Sz.rq Ll2 Lt2 hl2 ht2⟩
    have Lk2 : Lim k2 := hlim.2.2.1.2.2.2.2.1
    have Lu2 : Lim u2 := hlim.2.2.1.2.2.2.2.2.1
    have iY2 : Szc (rq z2 k2 u2) 201 := ⟨Sz.rq Lk2 Lu2 hk2 hu2⟩
    have hF : Sp 4000 (footQ (rq s0 l0 t0, rq z0 k0 u0) (rq s1 l1 t1, rq z1 k1 u1) (rq s2 l2 t2, rq z2 k2 u2)) := foot_sz ⟨iX0.sz, iY0.sz⟩ ⟨iX1.sz, iY1.sz⟩ ⟨iX2.sz, iY2.sz⟩
    refine And.intro (Nat.le_of_ble_eq_true rfl) ?_
    repeat first | refine And.intro rfl ?_ | refine Or.inl (And.intro rfl ?_) | refine Or.inr (And.intro rfl ?_) | refine And.intro (fun (_ : true = true) => ?_) (fun (h : true = false) => Bool.noConfusion h) | refine And.intro (fun (h : false = true) => Bool.noConfusion h) (fun (_ : false = false) => ?_)
    refine And.intro ?pre ?_
    case pre =>
      repeat' refine And.intro ?_ ?_
      all_goals first | exact lenN_of (by decide) | exact lenD_of (by decide) | assumption | exact trivial | exact Nat.zero_le _ | omega
    unfold mirQ
    generalize footQ (rq s0 l0 t0, rq z0 k0 u0) (rq s1 l1 t1, rq z1 k1 u1) (rq s2 l2 t2, rq z2 k2 u2) = F at hF
    generalize decide (footD (rq s1 l1 t1, rq z1 k1 u1) (rq s2 l2 t2, rq z2 k2 u2) = 0) = z
    repeat first | refine And.intro rfl ?_ | refine And.intro True.intro ?_ | refine Or.inl (And.intro rfl ?_) | refine Or.inr (And.intro rfl ?_) | refine And.intro (fun (_ : true = true) => ?_) (fun (h : true = false) => Bool.noConfusion h) | refine And.intro (fun (h : false = true) => Bool.noConfusion h) (fun (_ : false = false) => ?_)
    cases z with
    | true =>
      repeat first | refine And.intro rfl ?_ | refine And.intro True.intro ?_ | refine Or.inl (And.intro rfl ?_) | refine Or.inr (And.intro rfl ?_) | refine And.intro (fun (_ : true = true) => ?_) (fun (h : true = false) => Bool.noConfusion h) | refine And.intro (fun (h : false = true) => Bool.noConfusion h) (fun (_ : false = false) => ?_)
      rfl
    | false =>
      have q1 : rq (bif false then false else decide (F.1.num < 0)) (bif false then [] else dg F.1.num.natAbs) (bif false then [] else dg F.1.den) = F.1 := rq_cq F.1
      have q2 : rq (bif false then false else decide (F.2.num < 0)) (bif false then [] else dg F.2.num.natAbs) (bif false then [] else dg F.2.den) = F.2 := rq_cq F.2
      have a1 : (dg F.1.num.natAbs).length ≤ 39000 := hF.1.lenN (by decide)
      have a2 : (dg F.1.den).length ≤ 39000 := hF.1.lenD (by decide)
      have a3 : (dg F.2.num.natAbs).length ≤ 39000 := hF.2.lenN (by decide)
      have a4 : (dg F.2.den).length ≤ 39000 := hF.2.lenD (by decide)
      repeat first | refine And.intro rfl ?_ | refine And.intro True.intro ?_ | refine Or.inl (And.intro rfl ?_) | refine Or.inr (And.intro rfl ?_) | refine And.intro (fun (_ : true = true) => ?_) (fun (h : true = false) => Bool.noConfusion h) | refine And.intro (fun (h : false = true) => Bool.noConfusion h) (fun (_ : false = false) => ?_)
      refine And.intro (And.intro a1 (And.intro a2 (And.intro a3 (And.intro a4 (And.intro a1 (And.intro a2 (And.intro a3 a4))))))) ?_
      rw [q1, q2]
      have g1 : Sz 9000 (F.1 + F.1) := (hF.1.add hF.1).mono (by decide)
      have g2 : Sz 9000 (F.2 + F.2) := (hF.2.add hF.2).mono (by decide)
      generalize eG1 : F.1 + F.1 = G1 at g1
      generalize eG2 : F.2 + F.2 = G2 at g2
      have r1 := rq_cq G1
      have r2 := rq_cq G2
      repeat first | refine And.intro rfl ?_ | refine And.intro True.intro ?_ | refine Or.inl (And.intro rfl ?_) | refine Or.inr (And.intro rfl ?_) | refine And.intro (fun (_ : true = true) => ?_) (fun (h : true = false) => Bool.noConfusion h) | refine And.intro (fun (h : false = true) => Bool.noConfusion h) (fun (_ : false = false) => ?_)
      refine And.intro (And.intro (g1.lenN (by decide)) (And.intro (g1.lenD (by decide)) (And.intro (g2.lenN (by decide)) (And.intro (g2.lenD (by decide)) (And.intro (show l0.length ≤ 39000 by omega) (And.intro (show t0.length ≤ 39000 by omega) (And.intro (show k0.length ≤ 39000 by omega) (show u0.length ≤ 39000 by omega)))))))) ?_
      rw [r1, r2]
      repeat first | refine And.intro rfl ?_ | refine And.intro True.intro ?_ | refine Or.inl (And.intro rfl ?_) | refine Or.inr (And.intro rfl ?_) | refine And.intro (fun (_ : true = true) => ?_) (fun (h : true = false) => Bool.noConfusion h) | refine And.intro (fun (h : false = true) => Bool.noConfusion h) (fun (_ : false = false) => ?_)
      show Res.t [.agg (dz false (G1 - rq s0 l0 t0, G2 - rq z0 k0 u0)), .val (.int .i64 0)] = Res.t [.agg (dz false (F.1 + F.1 - rq s0 l0 t0, F.2 + F.2 - rq z0 k0 u0)), .val (.int .i64 0)]
      rw [eG1, eG2]
  · cases h

/-- The nearest whole number. -/
def rnd (q : Rat) : Int := sg (decide (q.num < 0)) ((q.num.natAbs + q.num.natAbs + q.den) / (q.den + q.den))

theorem rnd_eq (s : Bool) (x y : Nat) (hy : 0 < y) : sg s ((x + x + y) / (y + y)) = rnd (mkRat (sg s x) y) := by
  have hy' : y ≠ 0 := by omega
  have e : mkRat (sg s x) y = Rat.normalize (sg s x) y hy' := (Rat.normalize_eq_mkRat hy').symm
  obtain ⟨g, hg⟩ : ∃ g, g = Nat.gcd x y := ⟨_, rfl⟩
  have hg0 : 0 < g := by rw [hg]; exact Nat.gcd_pos_of_pos_right _ hy
  obtain ⟨a, ha⟩ : g ∣ x := by rw [hg]; exact Nat.gcd_dvd_left x y
  obtain ⟨b, hb⟩ : g ∣ y := by rw [hg]; exact Nat.gcd_dvd_right x y
  have hn : (mkRat (sg s x) y).num = sg s (x / g) := by
    rw [e, Rat.normalize_eq]
    simp only [sg_abs]
    rw [← hg]
    exact ediv_sg s x _ (by rw [hg]; exact Nat.gcd_dvd_left x y)
  have hd : (mkRat (sg s x) y).den = y / g := by
    rw [e, Rat.normalize_eq]
    simp only [sg_abs]
    rw [← hg]
  have xa : x / g = a := by rw [ha]; exact Nat.mul_div_cancel_left a hg0
  have yb : y / g = b := by rw [hb]; exact Nat.mul_div_cancel_left b hg0
  have hb0 : 0 < b := by
    rcases Nat.eq_zero_or_pos b with h | h
    · rw [h] at hb; omega
    · exact h
  have hq : (x + x + y) / (y + y) = (a + a + b) / (b + b) := by
    rw [ha, hb, ← Nat.mul_add, ← Nat.mul_add, ← Nat.mul_add, Nat.mul_div_mul_left _ _ hg0]
  unfold rnd
  rw [hn, hd, xa, yb, sg_abs, hq]
  rcases Nat.eq_zero_or_pos a with h | h
  · have : (a + a + b) / (b + b) = 0 := Nat.div_eq_of_lt (by omega)
    rw [this]
    cases s <;> cases decide (sg _ a < 0) <;> rfl
  · have hs : decide (sg s a < 0) = s := by
      cases s
      · exact decide_eq_false (by rw [sg_false]; omega)
      · exact decide_eq_true (by rw [sg_true]; omega)
    rw [hs]

def TPtD : Table := (86, sAdd) :: TQ2
theorem TPtD_ok : TabOk TPtD := TabOk.cons ok_natAdd TQ2_ok

def sRound : List RV → Option (Prop × Res)
  | [.agg [.b (.val (.bool s)), .b (.nat l), .b (.nat t)]] => some (l.length ≤ 30000 ∧ t.length ≤ 30000, .r (CI (rnd (rq s l t))))
  | _ => none

set_option maxHeartbeats 1000000 in
theorem ok_ratRound : Ok1 65 sRound := by
  refine ok_of TPtD_ok Tryz.func65 rfl (by kernel_rfl) ?_
  intro xs pre res h hp hlim
  unfold sRound at h
  split at h
  · rename_i s l t
    cases h
    have hl : Lim l := hlim.1.2.1
    have ht : Lim t := hlim.1.2.2.1
    obtain ⟨p1, p2⟩ := hp
    have hL : (vL l t).length ≤ 30000 := vL_len p1
    have hT : (vT t).length ≤ 30000 := vT_len p2 (by decide)
    have bx := len_of_lt (vL_lim (t := t) hl) hL
    have by_ := len_of_lt (vT_lim ht) hT
    have y0 := vT_pos t
    refine And.intro (Nat.le_of_ble_eq_true rfl) ?_
    repeat first | refine And.intro rfl ?_ | refine Or.inl (And.intro rfl ?_) | refine Or.inr (And.intro rfl ?_) | refine And.intro (fun (_ : true = true) => ?_) (fun (h : true = false) => Bool.noConfusion h) | refine And.intro (fun (h : false = true) => Bool.noConfusion h) (fun (_ : false = false) => ?_)
    refine And.intro (show t.length ≤ 1000000 by omega) ?_
    repeat first | refine And.intro rfl ?_ | refine Or.inl (And.intro rfl ?_) | refine Or.inr (And.intro rfl ?_) | refine And.intro (fun (_ : true = true) => ?_) (fun (h : true = false) => Bool.noConfusion h) | refine And.intro (fun (h : false = true) => Bool.noConfusion h) (fun (_ : false = false) => ?_)
    refine And.intro (show (vL l t).length ≤ 100000 ∧ (vL l t).length ≤ 100000 by omega) ?_
    obtain ⟨x, hx⟩ : ∃ x, x = nv (vL l t) := ⟨_, rfl⟩
    obtain ⟨y, hy⟩ : ∃ y, y = nv (vT t) := ⟨_, rfl⟩
    rw [← hx] at bx ⊢
    rw [← hy] at by_ y0
    obtain ⟨N, hN⟩ : ∃ N : Nat, N = 30000 := ⟨_, rfl⟩
    rw [← hN] at bx by_
    have b2 : (dg (x + x)).length ≤ N + 1 := len_add bx bx
    have b3 : (dg (x + x + y)).length ≤ N + 1 + 1 := len_add (lt_dg b2) (Nat.lt_of_lt_of_le by_ (pow_le (by omega)))
    have b4 : (dg (y + y)).length ≤ N + 1 := len_add by_ by_
    repeat first | refine And.intro rfl ?_ | refine Or.inl (And.intro rfl ?_) | refine Or.inr (And.intro rfl ?_) | refine And.intro (fun (_ : true = true) => ?_) (fun (h : true = false) => Bool.noConfusion h) | refine And.intro (fun (h : false = true) => Bool.noConfusion h) (fun (_ : false = false) => ?_)
    refine And.intro (show (dg (x + x)).length ≤ 100000 ∧ (vT t).length ≤ 100000 by omega) ?_
    rw [nv_dg, ← hy]
    repeat first | refine And.intro rfl ?_ | refine Or.inl (And.intro rfl ?_) | refine Or.inr (And.intro rfl ?_) | refine And.intro (fun (_ : true = true) => ?_) (fun (h : true = false) => Bool.noConfusion h) | refine And.intro (fun (h : false = true) => Bool.noConfusion h) (fun (_ : false = false) => ?_)
    refine And.intro (show (vT t).length ≤ 100000 ∧ (vT t).length ≤ 100000 by omega) ?_
    rw [← hy]
    repeat first | refine And.intro rfl ?_ | refine Or.inl (And.intro rfl ?_) | refine Or.inr (And.intro rfl ?_) | refine And.intro (fun (_ : true = true) => ?_) (fun (h : true = false) => Bool.noConfusion h) | refine And.intro (fun (h : false = true) => Bool.noConfusion h) (fun (_ : false = false) => ?_)
    refine And.intro (show (dg (x + x + y)).length ≤ 100000 ∧ (dg (y + y)).length ≤ 100000 ∧ DivFit _ from ⟨by omega, by omega, trivial⟩) ?_
    rw [nv_dg, nv_dg]
    repeat first | refine And.intro rfl ?_ | refine Or.inl (And.intro rfl ?_) | refine Or.inr (And.intro rfl ?_) | refine And.intro (fun (_ : true = true) => ?_) (fun (h : true = false) => Bool.noConfusion h) | refine And.intro (fun (h : false = true) => Bool.noConfusion h) (fun (_ : false = false) => ?_)
    refine And.intro (show (dg ((x + x + y) / (y + y))).length ≤ 100000 from Nat.le_trans (len_le (Nat.div_le_self _ _) (lt_dg b3)) (by omega)) ?_
    rw [nv_dg]
    repeat first | refine And.intro rfl ?_ | refine Or.inl (And.intro rfl ?_) | refine Or.inr (And.intro rfl ?_) | refine And.intro (fun (_ : true = true) => ?_) (fun (h : true = false) => Bool.noConfusion h) | refine And.intro (fun (h : false = true) => Bool.noConfusion h) (fun (_ : false = false) => ?_)
    refine resCI' ?_
    rw [rnd_eq _ _ _ y0, ← rq_value s l t, hx, hy]
    rfl
  · cases h

end Go.Gm
