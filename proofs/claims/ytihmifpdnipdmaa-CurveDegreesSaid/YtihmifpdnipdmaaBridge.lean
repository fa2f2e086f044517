/-
  From a contract of a law to the given statement about it. Plain theorems; no condition.
-/
import Derived.Test.YtihmifpdnipdmaaRows
import Derived.Test.YtihmifpdnipdmaaEnv
import Derived.ProofKit
import Derived.OpenShut
import Derived.Carry
import Derived.Deep.Slices
import Derived.ChangeSame
set_option linter.all false
namespace Go.Gm
open Go.Proofs Go.ChangeShapes Go.WideShapes Go.ChangeAt Go.RowKit

set_option maxRecDepth 100000

abbrev All (_ : Nat) : Prop := True

section
variable {H : Type} {enc : TypeId × Value → H} {P : Program} {w : World} {base : Nat} {spare : Nat → Bool} {held : Bool} {fuel : Nat} {t : TypeId} {cs : List Value} {x : DataW H × List MemPlace}

/-- A struct of two fields, each with its cells. -/
theorem op_two {f1 f2 : Field} {s1 s2 : Nat} (hu : P.underlying t = some (.struct #[f1, f2])) (o1 : f1.offset = 0) (o2 : f2.offset = s1) (c : P.cellsOf t = s1 + s2) (c1 : P.cellsOf f1.type = s1) (c2 : P.cellsOf f2.type = s2)
    (h : DataW.trod enc P w base spare held fuel t cs = some x) : ∃ a b n y z, cs = a ++ b ∧ a.length = s1 ∧ b.length = s2 ∧ DataW.trod enc P w base spare held n f1.type a = some y ∧ DataW.trod enc P w base spare held n f2.type b = some z := by
  obtain ⟨xs, n, _, _, hl, hxl, hf⟩ := DataW.trod_struct hu h
  have h1 := hf 0 f1 rfl
  have h2 := hf 1 f2 rfl
  rw [o1, c1, List.drop_zero] at h1
  rw [o2, c2] at h2
  have hx : xs.length = 2 := hxl
  have e2 : (cs.drop s1).take s2 = cs.drop s1 := List.take_of_length_le (by rw [List.length_drop]; omega)
  rw [e2] at h2
  rw [List.getElem?_eq_getElem (by omega)] at h1 h2
  exact ⟨cs.take s1, cs.drop s1, n, _, _, (List.take_append_drop s1 cs).symm, by rw [List.length_take]; omega, by rw [List.length_drop]; omega, h1, h2⟩

theorem wf_i64 {n : Int} (h : (Lit.int .i64 n).wf = true) : -9223372036854775808 ≤ n ∧ n < 9223372036854775808 := by
  simp [Lit.wf, IntKind.min, IntKind.max, IntKind.signed, IntKind.bits] at h
  omega
theorem wf_u32 {n : Int} (h : (Lit.int .u32 n).wf = true) : 0 ≤ n ∧ n < 4294967296 := by
  simp [Lit.wf, IntKind.min, IntKind.max, IntKind.signed, IntKind.bits] at h
  omega
theorem wf_u8 {n : Int} (h : (Lit.int .u8 n).wf = true) : 0 ≤ n ∧ n < 256 := by
  simp [Lit.wf, IntKind.min, IntKind.max, IntKind.signed, IntKind.bits] at h
  omega

theorem spot_none {a : Addr} {v : Value} (h : w.cell? a = some v) : a = ⟨a.block, a.off, none⟩ ∧ a.block < w.heap.size := by
  unfold World.cell? at h
  split at h
  · rename_i c t' f hh
    refine ⟨?_, lt_of_heap hh⟩
    split at h
    · cases h
    · rename_i hs
      obtain ⟨b, o, s⟩ := a
      cases s with
      | none => rfl
      | some s => simp at hs
  · cases h

/-- What a slice's elements read as, by what one element's cells read as. -/
theorem op_row {e : TypeId} {n : Nat} {R : List BV → Prop} (ht : P.underlying t = some (.slice e)) (hn : P.cellsOf e = n) (hpos : 0 < n)
    (helem : ∀ (fuel : Nat) (cs : List Value) (x : DataW H × List MemPlace), cs.length = n → DataW.trod enc P w base spare held fuel e cs = some x → ∃ bvs : List BV, R bvs ∧ All2 (BV.mean All w) bvs cs ∧ ∀ u, u ∈ cs → u.oneCell' = true)
    (h : DataW.trod enc P w base spare held fuel t cs = some x) : ∃ v l, cs = [v] ∧ Row All w n l v ∧ ∀ b, b ∈ l → R b := by
  rcases Go.Deep.open_slice ht h with ⟨rfl, _⟩ | ⟨a, len, cap, m, fu, D, Pl, rfl, _, hl, _, hm, _, hcell⟩
  · exact ⟨_, [], rfl, Row.nil_ _ _ _, fun b hb => by cases hb⟩
  · have hlm : len ≤ m := by rw [hm]; split <;> omega
    have hall : ∀ k, k ≤ len → ∃ l : List (List BV), l.length = k ∧ (∀ b, b ∈ l → R b) ∧ ∀ i y, l[i]? = some y → ∃ us : List Value, us.length = n ∧ (∀ u, u ∈ us → u.oneCell' = true) ∧ All2 (BV.mean All w) y us ∧ ∀ j u, us[j]? = some u → w.cell? ((a.add (i * n)).add j) = some u := by
      intro k
      induction k with
      | zero => intro _; exact ⟨[], rfl, (fun b hb => by cases hb), (fun i y hy => by simp at hy)⟩
      | succ k ih =>
        intro hk
        obtain ⟨l, h1, h2, h3⟩ := ih (by omega)
        obtain ⟨cs', hc1, hc2⟩ := hcell k (by omega)
        rw [hn] at hc1
        obtain ⟨_, hcl, hca⟩ := World.cells?_some hc1
        obtain ⟨bvs, hR, hmean, hone⟩ := helem fu cs' _ hcl hc2
        refine ⟨l ++ [bvs], by simp [h1], fun b hb => ?_, fun i y hy => ?_⟩
        · rcases List.mem_append.1 hb with hb | hb
          · exact h2 b hb
          · simp only [List.mem_singleton] at hb; subst hb; exact hR
        · rcases Nat.lt_or_ge i l.length with hi | hi
          · rw [List.getElem?_append_left hi] at hy
            exact h3 i y hy
          · rw [List.getElem?_append_right hi] at hy
            have hi0 : i - l.length = 0 := by
              have := (List.getElem?_eq_some_iff.1 hy).1
              simp at this
              omega
            rw [hi0] at hy
            simp only [List.getElem?_cons_zero, Option.some.injEq] at hy
            subst hy
            have hik : i = k := by omega
            subst hik
            refine ⟨cs', hcl, hone, hmean, fun j u hj => ?_⟩
            have hjl := (List.getElem?_eq_some_iff.1 hj).1
            rw [hca j (by omega)]
            exact hj
    obtain ⟨l, h1, h2, h3⟩ := hall len (Nat.le_refl _)
    refine ⟨_, l, rfl, ⟨some a, cap, by rw [h1], by omega, fun h0 => ?_⟩, h2⟩
    obtain ⟨us, hu1, _, _, hu4⟩ := h3 0 l[0] (List.getElem?_eq_getElem h0)
    have hu0 := hu4 0 us[0] (List.getElem?_eq_getElem (by omega))
    have ha : (a.add (0 * n)).add 0 = a := by simp [Addr.add]
    rw [ha] at hu0
    obtain ⟨e1, e2⟩ := spot_none hu0
    refine ⟨a.block, a.off, by rw [← e1], trivial, e2, fun i y hy => ?_⟩
    obtain ⟨us, g1, g2, g3, g4⟩ := h3 i y hy
    refine ⟨us, g1, g2, g3, fun j u hj => ?_⟩
    have := g4 j u hj
    rw [e1, add_at, add_at] at this
    exact this

/-- A slice of limbs. -/
theorem op_nat {e : TypeId} (ht : P.underlying t = some (.slice e)) (he : P.underlying e = some (.int .u32)) (hn : P.cellsOf e = 1) (h : DataW.trod enc P w base spare held fuel t cs = some x) : ∃ v l, cs = [v] ∧ Rd All w l v := by
  obtain ⟨v, l, rfl, ⟨a, c, hv, hc, hr⟩, hR⟩ := op_row (R := fun b => ∃ n : Nat, n < B ∧ b = [.val (.int .u32 (n : Int))]) ht hn (by decide) (fun fu cs y _ hy => by
    obtain ⟨n, rfl, _, hw⟩ := DataW.trod_int he hy
    obtain ⟨h0, h1⟩ := wf_u32 hw
    refine ⟨[.val (.int .u32 ((n.toNat : Nat) : Int))], ⟨n.toNat, by rw [B_eq]; omega, rfl⟩, ⟨?_, trivial⟩, fun u hu => by simp only [List.mem_singleton] at hu; subst hu; rfl⟩
    show Value.int .u32 n = .int .u32 ((n.toNat : Nat) : Int)
    rw [Int.toNat_of_nonneg h0]) h
  obtain ⟨ns, hns1, hns2⟩ : ∃ ns : List Nat, Lim ns ∧ l = ns.map fun (n : Nat) => [BV.val (.int .u32 (n : Int))] := by
    clear hv hc hr
    induction l with
    | nil => exact ⟨[], Lim.nil, rfl⟩
    | cons b l ih =>
      obtain ⟨n, hn, rfl⟩ := hR b (List.mem_cons_self ..)
      obtain ⟨ns, h1, rfl⟩ := ih (fun b hb => hR b (List.mem_cons_of_mem _ hb))
      exact ⟨n :: ns, Lim.cons hn h1, rfl⟩
  refine ⟨v, ns, rfl, hns1, a, c, by rw [hv, hns2, List.length_map], by rw [hns2, List.length_map] at hc; exact hc, fun h0 => ?_⟩
  obtain ⟨b, off, ha, hs, hb, hcell⟩ := hr (by rw [hns2, List.length_map]; exact h0)
  refine ⟨b, off, ha, hs, hb, fun i hi => ?_⟩
  obtain ⟨us, hu1, _, hu3, hu4⟩ := hcell i [BV.val (.int .u32 ((ns[i] : Nat) : Int))] (by rw [hns2]; simp [hi])
  match us, hu3 with
  | [u], hu3 =>
    have hu : u = .int .u32 ((ns[i] : Nat) : Int) := hu3.1
    have := hu4 0 u rfl
    rw [hu] at this
    rw [Nat.mul_one, Nat.add_zero] at this
    rw [this, List.getD_eq_getElem?_getD, List.getElem?_eq_getElem hi]
    rfl
  | [], hu3 => exact hu3.elim
  | _ :: _ :: _, hu3 => exact hu3.2.elim

theorem bv_cv {xs : List BV} {vs : List Value} (h : All2 (BV.mean All w) xs vs) : All2 (CV.mean All w) (xs.map CV.b) vs := by
  induction xs generalizing vs with
  | nil => cases vs with
    | nil => trivial
    | cons _ _ => exact h.elim
  | cons x xs ih => cases vs with
    | nil => exact h.elim
    | cons v vs => exact ⟨h.1, ih h.2⟩

/-- The arguments read afterwards as they did. -/
theorem args_stay (hl : laidOutB P = true) {W W' : World} (hb : Below W.heap.size W W') : ∀ {ts : List TypeId} {vs : List Value} {ds : List (DataW H)} {ps : List MemPlace}, (∀ t, t ∈ ts → P.readableRec t = true ∧ t < P.types.size) → (∀ p, p ∈ ps → p.block < W.heap.size) →
    DataW.TrodAll enc P W 0 (fun _ => true) true ts vs ds ps → DataW.TrodAll enc P W' 0 (fun b => decide (b < W.heap.size)) true ts vs ds ps
  | [], [], [], _, _, _, h => h
  | t :: ts, v :: vs, d :: ds, ps, hr, hlt, ⟨p, q, h1, h2, he⟩ => by
    subst he
    obtain ⟨r1, r2⟩ := hr t (List.mem_cons_self ..)
    exact ⟨p, q, Below.trod hl r1 r2 h1 hb (fun x hx => hlt x (List.mem_append_left _ hx)), args_stay hl hb (fun t ht => hr t (List.mem_cons_of_mem _ ht)) (fun x hx => hlt x (List.mem_append_right _ hx)) h2, rfl⟩
  | [], [], _ :: _, _, _, _, h => h.elim
  | [], _ :: _, _, _, _, _, h => h.elim
  | _ :: _, [], _, _, _, _, h => h.elim
  | _ :: _, _ :: _, [], _, _, _, h => h.elim

theorem trodAll_len : ∀ {ts : List TypeId} {vs : List Value} {ds : List (DataW H)} {ps : List MemPlace}, DataW.TrodAll enc P w base spare held ts vs ds ps → ds.length = ts.length ∧ vs.length = ts.length
  | [], [], [], _, _ => ⟨rfl, rfl⟩
  | _ :: _, _ :: _, _ :: _, _, ⟨_, _, _, h2, _⟩ => by
    obtain ⟨e1, e2⟩ := trodAll_len h2
    simp [e1, e2]
  | [], [], _ :: _, _, h => h.elim
  | [], _ :: _, _, _, h => h.elim
  | _ :: _, [], _, _, h => h.elim
  | _ :: _, _ :: _, [], _, h => h.elim
end

theorem own : ownKnob Try.prog.godebug = none := by kernel_rfl
theorem laid : laidOutB Try.prog = true := by kernel_rfl

/-- What a law's contract gives. -/
theorem law_calls {f : FuncId} {spec : List RV → Option (Prop × Res)} (h : Ok1 f spec) {xs : List RV} {pre : Prop} (hs : spec xs = some (pre, .r (.one (.val (.bool true))))) (hp : pre) {W : World} {args : Array Value} (hm : All2 (RV.mean All W) xs args.toList) :
    Calls Try.prog f args W fun e W' => e = .returned (.bool true) ∧ Ext W W' := by
  have := h.1 xs pre _ hs hp All W args.toList hm
  rw [Array.toArray_toList] at this
  refine this.mono ?_
  rintro e W' ⟨v, rfl, hv, he⟩
  have hv' : v = .bool true := hv
  rw [hv']
  exact ⟨rfl, he⟩

/-- What the row asks. -/
theorem law_lift {os : Os} {H : Type} {enc : TypeId × Value → H} {f : FuncId} {fn : Func} {s : ChangeSpec} {apart fresh : Bool} (started : os.Started) (noInit : Try.prog.inits.idxOf? f = none) (hfn : Try.prog.funcs[f]? = some fn) (hres : fn.resultTypes = #[4]) (hvars : s.vars = [])
    (hspec : ∀ ds : List (DataW H), ds.length = fn.params.size → s.fn H (ds ++ []) = { results := [.lit (.bool true)], args := ds }) (hread : ∀ t, t ∈ fn.params.toList → Try.prog.readableRec t = true ∧ t < Try.prog.types.size)
    (witness : ∃ (w : World) (tape : Tape) (i : Input), w.os = os ∧ (w.forCall tape i).Shaped Try.prog ∧ i.vars = [] ∧ Input.okWide Try.prog (w.forCall tape i) .any w.heap.size f i ∧
      s.pre6 enc Try.prog fn [] apart (w.forCall tape i).memory i.args ∧ ({} : Assume).holds Try.prog (lone (Frame.enter Try.prog f i.args .normal) [] (w.forCall tape i)))
    (contract : ∀ (W : World) (base : Nat) (args : Array Value) (ds : List (DataW H)) (ps : List MemPlace), (∀ (j : Nat) t v, fn.params[j]? = some t → args[j]? = some v → Value.okWide Try.prog W .any base t v) →
      DataW.TrodAll enc Try.prog W 0 (fun _ => true) true fn.params.toList args.toList ds ps → Calls Try.prog f args W fun e W' => e = .returned (.bool true) ∧ Ext W W') :
    ReturnsInHanded {} Try.checked os f .any (s.pre6 enc Try.prog fn [] apart) (s.post enc Try.prog fn apart fresh false false) := by
  refine returnsInHanded_of_change (C := Try.checked) own started noInit hfn witness ?_
  intro W base args ds gs before hval hW _ _
  have hW' := hW
  obtain ⟨p, q, hA, hV, rfl, _, _⟩ := hW
  have hA : DataW.TrodAll enc Try.prog W 0 (fun _ => true) true fn.params.toList args.toList ds p := hA
  rw [hvars] at hV
  obtain ⟨rfl, rfl⟩ := trodVars_none hV
  refine (contract W base args ds p hval hA).mono fun e W' ⟨he, hb⟩ => ?_
  have hlt : ∀ x, x ∈ p → x.block < W.heap.size := fun x hx => hW'.lt x (by simpa using hx)
  have hlen : ds.length = fn.params.size := by have := (trodAll_len hA).1; simpa using this
  refine ⟨.bool true, he, ds, [], p ++ [], [], p, [], hW', ?_, ?_, ?_, hb.frame _, fun h => by cases h⟩
  · rw [hspec ds hlen, hres]
    exact trodAll_cons_mk (shut_bool Try.underlying4 true) rfl
  · rw [hspec ds hlen]
    exact args_stay laid hb hread hlt hA
  · rw [hspec ds hlen, hvars]
    rfl

/-! The types of the laws' parameters. -/
section
variable {H : Type} {enc : TypeId × Value → H} {W : World} {base b0 : Nat} {v : Value} {d : DataW H} {ps : List MemPlace}

theorem opn_int (hv : Value.okWide Try.prog W .any b0 3 v) (h : DataW.Trod enc Try.prog W base (fun _ => true) true 3 v d ps) : ∃ n, (-9223372036854775808 ≤ n ∧ n < 9223372036854775808) ∧ RV.mean All W (.one (.val (.int .i64 n))) v := by
  obtain ⟨n, rfl, _, _, hw⟩ := open_int Try.underlying3 hv h
  exact ⟨n, wf_i64 hw, rfl⟩
theorem opn_bool (hv : Value.okWide Try.prog W .any b0 4 v) (h : DataW.Trod enc Try.prog W base (fun _ => true) true 4 v d ps) : ∃ n, RV.mean All W (.one (.val (.bool n))) v := by
  obtain ⟨n, rfl, _, _⟩ := open_bool Try.underlying4 hv h
  exact ⟨n, rfl⟩

variable {P : Program} {w : World} {spare : Nat → Bool} {held : Bool} {fuel : Nat} {cs : List Value} {x : DataW H × List MemPlace}
theorem ops_turn (h : DataW.trod enc Try.prog W base spare held fuel 23 cs = some x) : ∃ f q, (-9223372036854775808 ≤ q ∧ q < 9223372036854775808) ∧ cs = [.bool f, .int .i64 q] := by
  obtain ⟨a, b, n, y, z, rfl, _, _, h1, h2⟩ := op_two (s1 := 1) (s2 := 1) Try.underlying23 rfl rfl (by kernel_rfl) (by kernel_rfl) (by kernel_rfl) h
  obtain ⟨f, rfl, _⟩ := DataW.trod_bool Try.underlying4 h1
  obtain ⟨q, rfl, _, hw⟩ := DataW.trod_int Try.underlying3 h2
  exact ⟨f, q, wf_i64 hw, rfl⟩
theorem ops_spot (h : DataW.trod enc Try.prog W base spare held fuel 25 cs = some x) : ∃ a b, (-9223372036854775808 ≤ a ∧ a < 9223372036854775808) ∧ (-9223372036854775808 ≤ b ∧ b < 9223372036854775808) ∧ cs = [.int .i64 a, .int .i64 b] := by
  obtain ⟨a, b, n, y, z, rfl, _, _, h1, h2⟩ := op_two (s1 := 1) (s2 := 1) Try.underlying25 rfl rfl (by kernel_rfl) (by kernel_rfl) (by kernel_rfl) h
  obtain ⟨p, rfl, _, hw1⟩ := DataW.trod_int Try.underlying3 h1
  obtain ⟨q, rfl, _, hw⟩ := DataW.trod_int Try.underlying3 h2
  exact ⟨p, q, wf_i64 hw1, wf_i64 hw, rfl⟩
theorem ops_nat (h : DataW.trod enc Try.prog W base spare held fuel 32 cs = some x) : ∃ v l, cs = [v] ∧ Rd All W l v :=
  op_nat Try.underlying32 Try.underlying128 (by kernel_rfl) h
theorem ops_ratio (h : DataW.trod enc Try.prog W base spare held fuel 36 cs = some x) : ∃ s l t, All2 (BV.mean All W) [.val (.bool s), .nat l, .nat t] cs := by
  obtain ⟨a, b, n, y, z, rfl, _, _, h1, h2⟩ := op_two (s1 := 2) (s2 := 1) Try.underlying36 rfl rfl (by kernel_rfl) (by kernel_rfl) (by kernel_rfl) h
  obtain ⟨a1, a2, n', y', z', rfl, _, _, h3, h4⟩ := op_two (s1 := 1) (s2 := 1) Try.underlying34 rfl rfl (by kernel_rfl) (by kernel_rfl) (by kernel_rfl) h1
  obtain ⟨s, rfl, _⟩ := DataW.trod_bool Try.underlying4 h3
  obtain ⟨v1, l, rfl, hl⟩ := ops_nat h4
  obtain ⟨v2, t, rfl, ht⟩ := ops_nat h2
  exact ⟨s, l, t, rfl, hl, ht, trivial⟩
theorem ops_pt (h : DataW.trod enc Try.prog W base spare held fuel 38 cs = some x) : ∃ s l t s2 l2 t2, All2 (BV.mean All W) [.val (.bool s), .nat l, .nat t, .val (.bool s2), .nat l2, .nat t2] cs := by
  obtain ⟨a, b, n, y, z, rfl, _, _, h1, h2⟩ := op_two (s1 := 3) (s2 := 3) Try.underlying38 rfl rfl (by kernel_rfl) (by kernel_rfl) (by kernel_rfl) h
  obtain ⟨s, l, t, hm⟩ := ops_ratio h1
  obtain ⟨s2, l2, t2, hm2⟩ := ops_ratio h2
  exact ⟨s, l, t, s2, l2, t2, hm.append hm2⟩

theorem opn_turn (hv : Value.okWide Try.prog W .any b0 23 v) (h : DataW.Trod enc Try.prog W base (fun _ => true) true 23 v d ps) : ∃ f q, (-9223372036854775808 ≤ q ∧ q < 9223372036854775808) ∧ RV.mean All W (.agg [.val (.bool f), .val (.int .i64 q)]) v := by
  obtain ⟨cs, rfl, _⟩ := okWide_struct Try.underlying23 hv
  obtain ⟨fu, h⟩ := h
  obtain ⟨f, q, hq, hc⟩ := ops_turn h
  refine ⟨f, q, hq, [.bool f, .int .i64 q], ?_, rfl, rfl, trivial⟩
  have hc' : cs.toList = [.bool f, .int .i64 q] := hc
  rw [← hc']
theorem opn_spot (hv : Value.okWide Try.prog W .any b0 25 v) (h : DataW.Trod enc Try.prog W base (fun _ => true) true 25 v d ps) : ∃ a b, (-9223372036854775808 ≤ a ∧ a < 9223372036854775808) ∧ (-9223372036854775808 ≤ b ∧ b < 9223372036854775808) ∧ RV.mean All W (.agg [.val (.int .i64 a), .val (.int .i64 b)]) v := by
  obtain ⟨cs, rfl, _⟩ := okWide_struct Try.underlying25 hv
  obtain ⟨fu, h⟩ := h
  obtain ⟨a, b, ha, hb, hc⟩ := ops_spot h
  refine ⟨a, b, ha, hb, [.int .i64 a, .int .i64 b], ?_, rfl, rfl, trivial⟩
  have hc' : cs.toList = [.int .i64 a, .int .i64 b] := hc
  rw [← hc']
theorem opn_ratio (hv : Value.okWide Try.prog W .any b0 36 v) (h : DataW.Trod enc Try.prog W base (fun _ => true) true 36 v d ps) : ∃ s l t, RV.mean All W (.agg [.val (.bool s), .nat l, .nat t]) v := by
  obtain ⟨cs, rfl, _⟩ := okWide_struct Try.underlying36 hv
  obtain ⟨fu, h⟩ := h
  obtain ⟨s, l, t, hm⟩ := ops_ratio h
  exact ⟨s, l, t, cs.toList, rfl, bv_cv hm⟩
theorem opn_pt (hv : Value.okWide Try.prog W .any b0 38 v) (h : DataW.Trod enc Try.prog W base (fun _ => true) true 38 v d ps) : ∃ s l t s2 l2 t2, RV.mean All W (.agg [.val (.bool s), .nat l, .nat t, .val (.bool s2), .nat l2, .nat t2]) v := by
  obtain ⟨cs, rfl, _⟩ := okWide_struct Try.underlying38 hv
  obtain ⟨fu, h⟩ := h
  obtain ⟨s, l, t, s2, l2, t2, hm⟩ := ops_pt h
  exact ⟨s, l, t, s2, l2, t2, cs.toList, rfl, bv_cv hm⟩

theorem opn_spots (hv : Value.okWide Try.prog W .any b0 43 v) (h : DataW.Trod enc Try.prog W base (fun _ => true) true 43 v d ps) : ∃ l : List (List BV), (∀ b, b ∈ l → ∃ x y, (-9223372036854775808 ≤ x ∧ x < 9223372036854775808) ∧ (-9223372036854775808 ≤ y ∧ y < 9223372036854775808) ∧ b = [.val (.int .i64 x), .val (.int .i64 y)]) ∧ RV.mean All W (.one (.sl 2 l)) v := by
  obtain ⟨a, len, cap, rfl⟩ := okWide_slice Try.underlying43 hv
  obtain ⟨fu, h⟩ := h
  obtain ⟨v', l, hc, hrow, hR⟩ := op_row (R := fun b => ∃ x y, (-9223372036854775808 ≤ x ∧ x < 9223372036854775808) ∧ (-9223372036854775808 ≤ y ∧ y < 9223372036854775808) ∧ b = [BV.val (.int .i64 x), BV.val (.int .i64 y)]) Try.underlying43 (n := 2) (by kernel_rfl) (by decide) (fun fu cs y _ hy => by
    obtain ⟨p, q, hp, hq, rfl⟩ := ops_spot hy
    exact ⟨[.val (.int .i64 p), .val (.int .i64 q)], ⟨p, q, hp, hq, rfl⟩, ⟨rfl, rfl, trivial⟩, fun u hu => by
      simp only [List.mem_cons, List.not_mem_nil, or_false] at hu
      rcases hu with rfl | rfl <;> rfl⟩) h
  have e : Value.slice a len cap = v' := by simpa [Value.cells] using hc
  exact ⟨l, hR, by rw [e]; exact hrow⟩
end

end Go.Gm
