/-
  The points of the program, part D: Small, coordinate, Grid. Plain theorems; no condition.
-/
import Derived.Test.YtihmifpdnipdmaaGreatPtC
import Derived.Test.YtihmifpdnipdmaaGreatRefP
set_option linter.all false
namespace Go.Gm
open Go.Proofs

/-- Two numbers that share no bit. -/
theorem or_sum64 (h m s : Nat) (hh : h < 2 ^ s) (hl : m * 2 ^ s + h < 18446744073709551616) : bits .or .u64 ((h : Nat) : Int) ((m * 2 ^ s : Nat) : Int) = ((h + m * 2 ^ s : Nat) : Int) := by
  have e : m * 2 ^ s + h = m * 2 ^ s ||| h := by
    have := Nat.shiftLeft_add_eq_or_of_lt (b := h) (i := s) hh m
    rwa [Nat.shiftLeft_eq] at this
  have hb : bits .or .u64 ((h : Nat) : Int) ((m * 2 ^ s : Nat) : Int) = IntKind.u64.wrap ((BitVec.ofInt 64 (h : Int) ||| BitVec.ofInt 64 ((m * 2 ^ s : Nat) : Int)).toNat : Int) := rfl
  rw [hb, BitVec.toNat_or, BitVec.ofInt_natCast, BitVec.ofInt_natCast, BitVec.toNat_ofNat, BitVec.toNat_ofNat, Nat.mod_eq_of_lt (by omega), Nat.mod_eq_of_lt (by omega), Nat.or_comm, ← e, wU64]
  omega

theorem small_step (n x k : Nat) (hk : k < 2) (hn : n < B ^ k) (hx : x < 4294967296) :
    bits .or .u64 ((n : Nat) : Int) (IntKind.u64.wrap (IntKind.u64.wrap ((x : Nat) : Int) * 2 ^ min (IntKind.i64.wrap (32 * ((k : Nat) : Int))).toNat IntKind.u64.bits)) = ((n + B ^ k * x : Nat) : Int) := by
  match k, hk with
  | 0, _ =>
    have e : IntKind.u64.wrap (IntKind.u64.wrap ((x : Nat) : Int) * 2 ^ min (IntKind.i64.wrap (32 * ((0 : Nat) : Int))).toNat IntKind.u64.bits) = ((x * 2 ^ 0 : Nat) : Int) := by
      rw [show min (IntKind.i64.wrap (32 * ((0 : Nat) : Int))).toNat IntKind.u64.bits = 0 by decide]
      simp only [wU64]
      omega
    have hn : n < 1 := by simpa using hn
    rw [e, or_sum64 n x 0 (by omega) (by omega)]
    simp
  | 1, _ =>
    have e : IntKind.u64.wrap (IntKind.u64.wrap ((x : Nat) : Int) * 2 ^ min (IntKind.i64.wrap (32 * ((1 : Nat) : Int))).toNat IntKind.u64.bits) = ((x * 2 ^ 32 : Nat) : Int) := by
      rw [show min (IntKind.i64.wrap (32 * ((1 : Nat) : Int))).toNat IntKind.u64.bits = 32 by decide]
      simp only [wU64]
      omega
    rw [Nat.pow_one, B_eq] at hn
    rw [e, or_sum64 n x 32 (by omega) (by omega), Nat.pow_one, B_eq]
    omega

/-- Whether a number is an int. -/
def inI (z : Int) : Bool := decide (-9223372036854775808 ≤ z ∧ z < 9223372036854775808)
/-- The int. -/
def smI (z : Int) : Int := cond (inI z) z 0

def sSmall : List RV → Option (Prop × Res)
  | [.agg [.b (.val (.bool s)), .b (.nat l)]] => some (l.length ≤ 100000, .t [.val (.int .i64 (smI (sg s (nv l)))), .val (.bool (inI (sg s (nv l))))])
  | _ => none

theorem resSm {x : Int} {b : Bool} {z : Int} (h : x = smI z) (h' : b = inI z) : Res.t [.val (.int .i64 x), .val (.bool b)] = Res.t [.val (.int .i64 (smI z)), .val (.bool (inI z))] := by rw [h, h']

set_option maxHeartbeats 2000000 in
theorem ok_Small : Ok1 64 sSmall := by
  refine ok_of TI2_ok Tryz.func64 rfl (by kernel_rfl) ?_
  intro xs pre res h hp hlim
  unfold sSmall at h
  split at h
  · rename_i s l
    cases h
    refine And.intro (Nat.le_of_ble_eq_true rfl) ?_
    repeat first | refine And.intro rfl ?_ | refine Or.inl (And.intro rfl ?_) | refine Or.inr (And.intro rfl ?_) | refine And.intro (fun (_ : true = true) => ?_) (fun (h : true = false) => Bool.noConfusion h) | refine And.intro (fun (h : false = true) => Bool.noConfusion h) (fun (_ : false = false) => ?_)
    refine And.intro hp ?_
    generalize sg s (nv l) = z
    obtain ⟨m, hm⟩ : ∃ m, m = z.natAbs := ⟨_, rfl⟩
    have no : ¬ inI z = true → (0 : Int) = smI z ∧ false = inI z := by
      intro h
      have : inI z = false := by simpa using h
      unfold smI
      rw [this]
      exact ⟨rfl, rfl⟩
    have yes : inI z = true → z = smI z ∧ true = inI z := by
      intro h
      unfold smI
      rw [h]
      exact ⟨rfl, rfl⟩
    repeat first | refine And.intro rfl ?_ | refine Or.inl (And.intro rfl ?_) | refine Or.inr (And.intro rfl ?_) | refine And.intro (fun (_ : true = true) => ?_) (fun (h : true = false) => Bool.noConfusion h) | refine And.intro (fun (h : false = true) => Bool.noConfusion h) (fun (_ : false = false) => ?_)
    refine And.intro (fun hc => ?_) (fun hc => ?_)
    · have hc : (((dg z.natAbs).length : Nat) : Int) > 2 := of_decide_eq_true hc
      have hbig : ¬ inI z = true := by
        intro h
        have h' := of_decide_eq_true h
        have := dg_len_of_lt z.natAbs 2 (by rw [B_eq]; omega)
        omega
      repeat first | refine And.intro rfl ?_ | refine Or.inl (And.intro rfl ?_) | refine Or.inr (And.intro rfl ?_) | refine And.intro (fun (_ : true = true) => ?_) (fun (h : true = false) => Bool.noConfusion h) | refine And.intro (fun (h : false = true) => Bool.noConfusion h) (fun (_ : false = false) => ?_)
      exact resSm (no hbig).1 (no hbig).2
    · have hc : ¬ (((dg z.natAbs).length : Nat) : Int) > 2 := of_decide_eq_false hc
      have hlm := dg_lim z.natAbs
      repeat first | refine And.intro rfl ?_ | refine Or.inl (And.intro rfl ?_) | refine Or.inr (And.intro rfl ?_) | refine And.intro (fun (_ : true = true) => ?_) (fun (h : true = false) => Bool.noConfusion h) | refine And.intro (fun (h : false = true) => Bool.noConfusion h) (fun (_ : false = false) => ?_)
      refine Exists.intro {k : Nat // k ≤ (dg z.natAbs).length} (Exists.intro (fun k => ⟨[(1, .ptr 0 0), (4, .val (.int .u64 (nv ((dg z.natAbs).take k.1) : Nat))), (14, .one (.nat (dg z.natAbs))), (15, .val (.int .i64 ((dg z.natAbs).length : Nat))), (16, .val (.int .i64 (k.1 : Nat)))], ⟨[(25, [.val (.bool (decide (z < 0))), .nat (dg z.natAbs)])], []⟩⟩) (Exists.intro (fun k => (dg z.natAbs).length - k.1) (Exists.intro ⟨0, Nat.zero_le _⟩ (And.intro ?_ ?_))))
      · repeat first | exact trivial | refine And.intro rfl ?_ | refine And.intro trivial ?_ | refine And.intro (And.intro rfl trivial) ?_ | refine And.intro (And.intro rfl (And.intro rfl trivial)) ?_
      · rintro ⟨k, hk⟩
        repeat first | refine And.intro rfl ?_ | refine Or.inl (And.intro rfl ?_) | refine Or.inr (And.intro rfl ?_) | refine And.intro (fun (_ : true = true) => ?_) (fun (h : true = false) => Bool.noConfusion h) | refine And.intro (fun (h : false = true) => Bool.noConfusion h) (fun (_ : false = false) => ?_)
        refine And.intro (fun hc => ?_) (fun hc => ?_)
        · have hk' : (k : Int) < (((dg z.natAbs).length : Nat) : Int) := of_decide_eq_true hc
          have hx : (dg z.natAbs).getD k 0 < 4294967296 := by
            have := hlm.getD k
            rwa [B_eq] at this
          have hn := nv_take_lt hlm k
          have es := small_step (nv ((dg z.natAbs).take k)) ((dg z.natAbs).getD k 0) k (by omega) hn hx
          repeat first | refine And.intro rfl ?_ | refine Or.inl (And.intro rfl ?_) | refine Or.inr (And.intro rfl ?_) | refine And.intro (fun (_ : true = true) => ?_) (fun (h : true = false) => Bool.noConfusion h) | refine And.intro (fun (h : false = true) => Bool.noConfusion h) (fun (_ : false = false) => ?_)
          refine And.intro (show 0 ≤ (k : Int) ∧ (k : Int) < (((dg z.natAbs).length : Nat) : Int) by omega) ?_
          rw [Int.toNat_natCast]
          repeat first | refine And.intro rfl ?_ | refine Or.inl (And.intro rfl ?_) | refine Or.inr (And.intro rfl ?_) | refine And.intro (fun (_ : true = true) => ?_) (fun (h : true = false) => Bool.noConfusion h) | refine And.intro (fun (h : false = true) => Bool.noConfusion h) (fun (_ : false = false) => ?_)
          refine And.intro (show 0 ≤ IntKind.i64.wrap (32 * ((k : Nat) : Int)) by rw [wI (by omega) (by omega)]; omega) ?_
          repeat first | refine And.intro rfl ?_ | refine Or.inl (And.intro rfl ?_) | refine Or.inr (And.intro rfl ?_) | refine And.intro (fun (_ : true = true) => ?_) (fun (h : true = false) => Bool.noConfusion h) | refine And.intro (fun (h : false = true) => Bool.noConfusion h) (fun (_ : false = false) => ?_)
          refine Exists.intro ⟨k + 1, by omega⟩ (And.intro (show (dg z.natAbs).length - (k + 1) < (dg z.natAbs).length - k by omega) ?_)
          repeat first | exact trivial | refine And.intro rfl ?_ | refine And.intro trivial ?_ | refine And.intro (And.intro rfl trivial) ?_ | refine And.intro (And.intro rfl (And.intro rfl trivial)) ?_
          refine And.intro (avI ?_) ?_
          · rw [nv_take_getD _ _ (by omega)]
            exact es
          · repeat first | exact trivial | refine And.intro rfl ?_ | refine And.intro trivial ?_ | refine And.intro (And.intro rfl trivial) ?_ | refine And.intro (And.intro rfl (And.intro rfl trivial)) ?_
            exact And.intro (avI (show IntKind.i64.wrap ((k : Int) + 1) = ((k + 1 : Nat) : Int) by rw [wI (by omega) (by omega)]; omega)) trivial
        · have hk' : ¬ (k : Int) < (((dg z.natAbs).length : Nat) : Int) := of_decide_eq_false hc
          have etk : nv ((dg z.natAbs).take k) = z.natAbs := by rw [List.take_of_length_le (by omega), nv_dg]
          have eW : ((nv ((dg z.natAbs).take k) : Nat) : Int) = ((z.natAbs : Nat) : Int) := by rw [etk]
          generalize ((nv ((dg z.natAbs).take k) : Nat) : Int) = W at eW
          by_cases hz : z < 0
          · repeat first | refine And.intro rfl ?_ | refine Or.inl (And.intro rfl ?_) | refine Or.inr (And.intro rfl ?_) | refine And.intro (fun (_ : true = true) => ?_) (fun (h : true = false) => Bool.noConfusion h) | refine And.intro (fun (h : false = true) => Bool.noConfusion h) (fun (_ : false = false) => ?_)
            refine Or.inl (And.intro (decide_eq_true hz) ?_)
            repeat first | refine And.intro rfl ?_ | refine Or.inl (And.intro rfl ?_) | refine Or.inr (And.intro rfl ?_) | refine And.intro (fun (_ : true = true) => ?_) (fun (h : true = false) => Bool.noConfusion h) | refine And.intro (fun (h : false = true) => Bool.noConfusion h) (fun (_ : false = false) => ?_)
            refine And.intro (fun hc => ?_) (fun hc => ?_)
            · have hle : W ≤ 9223372036854775808 := of_decide_eq_true hc
              have hin : inI z = true := decide_eq_true (by omega)
              repeat first | refine And.intro rfl ?_ | refine Or.inl (And.intro rfl ?_) | refine Or.inr (And.intro rfl ?_) | refine And.intro (fun (_ : true = true) => ?_) (fun (h : true = false) => Bool.noConfusion h) | refine And.intro (fun (h : false = true) => Bool.noConfusion h) (fun (_ : false = false) => ?_)
              refine resSm ?_ (yes hin).2
              rw [← (yes hin).1]
              show IntKind.i64.wrap (IntKind.u64.wrap (0 - W)) = z
              rw [wU64, IntKind.wrap_i64]
              omega
            · have hle : ¬ W ≤ 9223372036854775808 := of_decide_eq_false hc
              have hin : ¬ inI z = true := fun h => by have := of_decide_eq_true h; omega
              repeat first | refine And.intro rfl ?_ | refine Or.inl (And.intro rfl ?_) | refine Or.inr (And.intro rfl ?_) | refine And.intro (fun (_ : true = true) => ?_) (fun (h : true = false) => Bool.noConfusion h) | refine And.intro (fun (h : false = true) => Bool.noConfusion h) (fun (_ : false = false) => ?_)
              refine Or.inr (And.intro (show (!decide (z < 0)) = false by simp [hz]) ?_)
              repeat first | refine And.intro rfl ?_ | refine Or.inl (And.intro rfl ?_) | refine Or.inr (And.intro rfl ?_) | refine And.intro (fun (_ : true = true) => ?_) (fun (h : true = false) => Bool.noConfusion h) | refine And.intro (fun (h : false = true) => Bool.noConfusion h) (fun (_ : false = false) => ?_)
              exact resSm (no hin).1 (no hin).2
          · repeat first | refine And.intro rfl ?_ | refine Or.inl (And.intro rfl ?_) | refine Or.inr (And.intro rfl ?_) | refine And.intro (fun (_ : true = true) => ?_) (fun (h : true = false) => Bool.noConfusion h) | refine And.intro (fun (h : false = true) => Bool.noConfusion h) (fun (_ : false = false) => ?_)
            refine Or.inr (And.intro (decide_eq_false hz) ?_)
            repeat first | refine And.intro rfl ?_ | refine Or.inl (And.intro rfl ?_) | refine Or.inr (And.intro rfl ?_) | refine And.intro (fun (_ : true = true) => ?_) (fun (h : true = false) => Bool.noConfusion h) | refine And.intro (fun (h : false = true) => Bool.noConfusion h) (fun (_ : false = false) => ?_)
            refine Or.inl (And.intro (show (!decide (z < 0)) = true by simp [hz]) ?_)
            repeat first | refine And.intro rfl ?_ | refine Or.inl (And.intro rfl ?_) | refine Or.inr (And.intro rfl ?_) | refine And.intro (fun (_ : true = true) => ?_) (fun (h : true = false) => Bool.noConfusion h) | refine And.intro (fun (h : false = true) => Bool.noConfusion h) (fun (_ : false = false) => ?_)
            refine And.intro (fun hc => ?_) (fun hc => ?_)
            · have hle : W < 9223372036854775808 := of_decide_eq_true hc
              have hin : inI z = true := decide_eq_true (by omega)
              repeat first | refine And.intro rfl ?_ | refine Or.inl (And.intro rfl ?_) | refine Or.inr (And.intro rfl ?_) | refine And.intro (fun (_ : true = true) => ?_) (fun (h : true = false) => Bool.noConfusion h) | refine And.intro (fun (h : false = true) => Bool.noConfusion h) (fun (_ : false = false) => ?_)
              refine resSm ?_ (yes hin).2
              rw [← (yes hin).1]
              show IntKind.i64.wrap W = z
              rw [IntKind.wrap_i64]
              omega
            · have hle : ¬ W < 9223372036854775808 := of_decide_eq_false hc
              have hin : ¬ inI z = true := fun h => by have := of_decide_eq_true h; omega
              repeat first | refine And.intro rfl ?_ | refine Or.inl (And.intro rfl ?_) | refine Or.inr (And.intro rfl ?_) | refine And.intro (fun (_ : true = true) => ?_) (fun (h : true = false) => Bool.noConfusion h) | refine And.intro (fun (h : false = true) => Bool.noConfusion h) (fun (_ : false = false) => ?_)
              exact resSm (no hin).1 (no hin).2
  · cases h

def TPtE : Table := [(64, sSmall), (65, sRound)]
theorem TPtE_ok : TabOk TPtE := TabOk.cons ok_Small (TabOk.cons ok_ratRound TabOk.nil)

/-- Whether a number is a coordinate of the grid. -/
def inG (z : Int) : Bool := decide (-1048576 ≤ z ∧ z ≤ 1048576)

def sCoordinate : List RV → Option (Prop × Res)
  | [.agg [.b (.val (.bool s)), .b (.nat l), .b (.nat t)]] => some (l.length ≤ 30000 ∧ t.length ≤ 30000, .t [.val (.int .i64 (smI (rnd (rq s l t)))), .val (.bool (inG (rnd (rq s l t))))])
  | _ => none

theorem resTB {x y : Int} {b b' : Bool} (h : x = y) (h' : b = b') : Res.t [.val (.int .i64 x), .val (.bool b)] = Res.t [.val (.int .i64 y), .val (.bool b')] := by rw [h, h']

theorem rnd_len {n : Nat} {q : Rat} (h : Sz n q) (hn : 0 < n) : (dg (rnd q).natAbs).length ≤ n + 2 := by
  unfold rnd
  rw [sg_abs]
  refine Nat.le_trans (dg_len_mono (Nat.div_le_self _ _)) ?_
  have b2 : (dg (q.num.natAbs + q.num.natAbs)).length ≤ n + 1 := len_add h.1 h.1
  exact len_add (lt_dg b2) (Nat.lt_of_lt_of_le h.2 (pow_le (by omega)))

set_option maxHeartbeats 1000000 in
theorem ok_coordinate : Ok1 38 sCoordinate := by
  refine ok_of TPtE_ok Tryz.func38 rfl (by kernel_rfl) ?_
  intro xs pre res h hp hlim
  unfold sCoordinate at h
  split at h
  · rename_i s l t
    cases h
    have hl : Lim l := hlim.1.2.1
    have ht : Lim t := hlim.1.2.2.1
    obtain ⟨p1, p2⟩ := hp
    obtain ⟨N, hN⟩ : ∃ N : Nat, N = 30000 := ⟨_, rfl⟩
    rw [← hN] at p1 p2
    have hz := Sz.rq (s := s) hl ht p1 p2
    have hlen := rnd_len hz (by omega)
    refine And.intro (Nat.le_of_ble_eq_true rfl) ?_
    repeat first | refine And.intro rfl ?_ | refine Or.inl (And.intro rfl ?_) | refine Or.inr (And.intro rfl ?_) | refine And.intro (fun (_ : true = true) => ?_) (fun (h : true = false) => Bool.noConfusion h) | refine And.intro (fun (h : false = true) => Bool.noConfusion h) (fun (_ : false = false) => ?_)
    refine And.intro (show l.length ≤ 30000 ∧ t.length ≤ 30000 by omega) ?_
    generalize rnd (rq s l t) = z at hlen
    have e := sg_CI z
    repeat first | refine And.intro rfl ?_ | refine Or.inl (And.intro rfl ?_) | refine Or.inr (And.intro rfl ?_) | refine And.intro (fun (_ : true = true) => ?_) (fun (h : true = false) => Bool.noConfusion h) | refine And.intro (fun (h : false = true) => Bool.noConfusion h) (fun (_ : false = false) => ?_)
    refine And.intro (show (dg z.natAbs).length ≤ 100000 by omega) ?_
    rw [e]
    by_cases hi : inI z = true
    · have hi' := of_decide_eq_true hi
      have es : smI z = z := by unfold smI; rw [hi]; rfl
      rw [hi]
      repeat first | refine And.intro rfl ?_ | refine Or.inl (And.intro rfl ?_) | refine Or.inr (And.intro rfl ?_) | refine And.intro (fun (_ : true = true) => ?_) (fun (h : true = false) => Bool.noConfusion h) | refine And.intro (fun (h : false = true) => Bool.noConfusion h) (fun (_ : false = false) => ?_)
      by_cases h1 : z ≥ -1048576
      · refine Or.inl (And.intro (show decide (smI z ≥ -1048576) = true by rw [es]; exact decide_eq_true h1) ?_)
        repeat first | refine And.intro rfl ?_ | refine Or.inl (And.intro rfl ?_) | refine Or.inr (And.intro rfl ?_) | refine And.intro (fun (_ : true = true) => ?_) (fun (h : true = false) => Bool.noConfusion h) | refine And.intro (fun (h : false = true) => Bool.noConfusion h) (fun (_ : false = false) => ?_)
        refine resTB rfl ?_
        show decide (smI z ≤ 1048576) = inG z
        rw [es]
        unfold inG
        by_cases h2 : z ≤ 1048576
        · rw [decide_eq_true h2, decide_eq_true ⟨h1, h2⟩]
        · rw [decide_eq_false h2, decide_eq_false (fun h => h2 h.2)]
      · refine Or.inr (And.intro (show decide (smI z ≥ -1048576) = false by rw [es]; exact decide_eq_false h1) ?_)
        repeat first | refine And.intro rfl ?_ | refine Or.inl (And.intro rfl ?_) | refine Or.inr (And.intro rfl ?_) | refine And.intro (fun (_ : true = true) => ?_) (fun (h : true = false) => Bool.noConfusion h) | refine And.intro (fun (h : false = true) => Bool.noConfusion h) (fun (_ : false = false) => ?_)
        refine resTB rfl ?_
        exact (decide_eq_false (fun h => h1 h.1)).symm
    · have hi2 : inI z = false := by simpa using hi
      rw [hi2]
      repeat first | refine And.intro rfl ?_ | refine Or.inl (And.intro rfl ?_) | refine Or.inr (And.intro rfl ?_) | refine And.intro (fun (_ : true = true) => ?_) (fun (h : true = false) => Bool.noConfusion h) | refine And.intro (fun (h : false = true) => Bool.noConfusion h) (fun (_ : false = false) => ?_)
      refine resTB rfl ?_
      refine (decide_eq_false (fun h => hi (decide_eq_true ?_))).symm
      omega
  · cases h

def TPtF : Table := [(38, sCoordinate)]
theorem TPtF_ok : TabOk TPtF := TabOk.cons ok_coordinate TabOk.nil

/-- Whether a point rounds to the grid. -/
def grdB (p : Rat × Rat) : Bool := inG (rnd p.1) && inG (rnd p.2)

def sGrid : List RV → Option (Prop × Res)
  | [.agg [.b (.val (.bool s)), .b (.nat l), .b (.nat t), .b (.val (.bool z)), .b (.nat k), .b (.nat u)]] => some (l.length ≤ 30000 ∧ t.length ≤ 30000 ∧ k.length ≤ 30000 ∧ u.length ≤ 30000, .t [.agg [.val (.int .i64 (cond (grdB (rq s l t, rq z k u)) (rnd (rq s l t)) 0)), .val (.int .i64 (cond (grdB (rq s l t, rq z k u)) (rnd (rq z k u)) 0))], .val (.int .i64 (cond (grdB (rq s l t, rq z k u)) 0 3))])
  | _ => none

theorem smI_G {z : Int} (h : inG z = true) : smI z = z := by
  have h' := of_decide_eq_true h
  unfold smI
  rw [show inI z = true from decide_eq_true (by omega)]
  rfl

set_option maxHeartbeats 1000000 in
theorem ok_Grid : Ok1 17 sGrid := by
  refine ok_of TPtF_ok Tryz.func17 rfl (by kernel_rfl) ?_
  intro xs pre res h hp hlim
  unfold sGrid at h
  split at h
  · rename_i s l t z k u
    cases h
    obtain ⟨p1, p2, p3, p4⟩ := hp
    obtain ⟨y, hy⟩ : ∃ y, y = rnd (rq z k u) := ⟨_, rfl⟩
    obtain ⟨x, hx⟩ : ∃ x, x = rnd (rq s l t) := ⟨_, rfl⟩
    have hg : grdB (rq s l t, rq z k u) = (inG x && inG y) := by
      unfold grdB
      rw [hx, hy]
    rw [hg, ← hx, ← hy]
    refine And.intro (Nat.le_of_ble_eq_true rfl) ?_
    repeat first | refine And.intro rfl ?_ | refine Or.inl (And.intro rfl ?_) | refine Or.inr (And.intro rfl ?_) | refine And.intro (fun (_ : true = true) => ?_) (fun (h : true = false) => Bool.noConfusion h) | refine And.intro (fun (h : false = true) => Bool.noConfusion h) (fun (_ : false = false) => ?_)
    refine And.intro (And.intro p1 p2) ?_
    rw [← hx]
    repeat first | refine And.intro rfl ?_ | refine Or.inl (And.intro rfl ?_) | refine Or.inr (And.intro rfl ?_) | refine And.intro (fun (_ : true = true) => ?_) (fun (h : true = false) => Bool.noConfusion h) | refine And.intro (fun (h : false = true) => Bool.noConfusion h) (fun (_ : false = false) => ?_)
    refine And.intro (And.intro p3 p4) ?_
    rw [← hy]
    cases gx : inG x with
    | false =>
      repeat first | refine And.intro rfl ?_ | refine And.intro True.intro ?_ | refine Or.inl (And.intro rfl ?_) | refine Or.inr (And.intro rfl ?_) | refine And.intro (fun (_ : true = true) => ?_) (fun (h : true = false) => Bool.noConfusion h) | refine And.intro (fun (h : false = true) => Bool.noConfusion h) (fun (_ : false = false) => ?_)
      rfl
    | true =>
      have ex := smI_G gx
      rw [ex]
      cases gy : inG y with
      | false =>
        repeat first | refine And.intro rfl ?_ | refine And.intro True.intro ?_ | refine Or.inl (And.intro rfl ?_) | refine Or.inr (And.intro rfl ?_) | refine And.intro (fun (_ : true = true) => ?_) (fun (h : true = false) => Bool.noConfusion h) | refine And.intro (fun (h : false = true) => Bool.noConfusion h) (fun (_ : false = false) => ?_)
        rfl
      | true =>
        have ey := smI_G gy
        rw [ey]
        repeat first | refine And.intro rfl ?_ | refine And.intro True.intro ?_ | refine Or.inl (And.intro rfl ?_) | refine Or.inr (And.intro rfl ?_) | refine And.intro (fun (_ : true = true) => ?_) (fun (h : true = false) => Bool.noConfusion h) | refine And.intro (fun (h : false = true) => Bool.noConfusion h) (fun (_ : false = false) => ?_)
        rfl
  · cases h

end Go.Gm
