/-
  The types of the program, as the frame wants them. Plain theorems; no condition.
-/
import Derived.Test.YtihmifpdnipdmaaProg
import Derived.Test.YtihmifpdnipdmaaCoreK
import Derived.KernelRfl
set_option linter.all false
namespace Go.Gm
open Go.Proofs

section
variable {P : Program} {t : TypeId}

theorem ti_one {d : TypeDesc} {z : Value} {c : CV} (hu : P.underlying t = some d) (hd : (match d with | .struct _ => false | .array _ _ => false | _ => true) = true) (hinfo : (P.info? t).map (fun i => (i.zero, i.size)) = some (some z, 1)) (hz : z.cells = #[z])
    (hm : ∀ S w, c.mean S w z) : TI.Ok P t ⟨1, false, false, [c], []⟩ := by
  cases hi : P.info? t with
  | none => rw [hi] at hinfo; cases hinfo
  | some ti =>
    rw [hi] at hinfo
    simp only [Option.map_some, Option.some.injEq, Prod.mk.injEq] at hinfo
    refine ⟨⟨ti, z, hi, hinfo.2, hinfo.1, by rw [hz]; rfl, fun S w => by rw [hz]; exact ⟨hm S w, trivial⟩⟩, d, hu, ?_⟩
    cases d <;> first | exact ⟨rfl, rfl⟩ | cases hd

theorem ti_struct {fs : Array Field} {zs : List Value} {n : Nat} {cs : List CV} {fields : List (Nat × Nat)} (hu : P.underlying t = some (.struct fs)) (hinfo : (P.info? t).map (fun i => (i.zero, i.size)) = some (some (.agg zs.toArray), n)) (hn : zs.length = n)
    (hm : ∀ S w, All2 (CV.mean S w) cs zs) (hf : (fs.toList.map fun f => (P.info? f.type).map fun ti => (f.offset, ti.size)) = fields.map some) (hz : (fields.all fun x => !Nat.beq x.2 0) = true) : TI.Ok P t ⟨n, true, false, cs, fields⟩ := by
  cases hi : P.info? t with
  | none => rw [hi] at hinfo; cases hinfo
  | some ti =>
    rw [hi] at hinfo
    simp only [Option.map_some, Option.some.injEq, Prod.mk.injEq] at hinfo
    refine ⟨⟨ti, _, hi, hinfo.2, hinfo.1, by simpa [Value.cells] using hn, fun S w => by simpa [Value.cells] using hm S w⟩, _, hu, rfl, rfl, ?_, ?_⟩
    · have := congrArg List.length hf
      simpa using this.symm
    · intro j f hj
      have h1 := congrArg (·[j]?) hf
      simp only [List.getElem?_map] at h1
      have hj' : fs.toList[j]? = some f := by simpa using hj
      rw [hj'] at h1
      simp only [Option.map_some] at h1
      cases hx : fields[j]? with
      | none => rw [hx] at h1; cases h1
      | some x =>
        rw [hx] at h1
        simp only [Option.map_some, Option.some.injEq] at h1
        refine ⟨h1, fun y hy => ?_⟩
        injection hy with hy
        subst hy
        have := (List.all_eq_true.1 hz) x (List.mem_of_getElem? hx)
        intro h0
        rw [h0] at this
        cases this

theorem ti_array {m : Nat} {e : TypeId} {s : Nat} {zs : List Value} {n : Nat} {cs : List CV} {fields : List (Nat × Nat)} (hu : P.underlying t = some (.array m e)) (hinfo : (P.info? t).map (fun i => (i.zero, i.size)) = some (some (.agg zs.toArray), n)) (hn : zs.length = n)
    (hm : ∀ S w, All2 (CV.mean S w) cs zs) (he : (P.info? e).map (fun i => i.size) = some s) (hf : fields = (List.range m).map fun j => (j * s, s)) (hs : s ≠ 0) : TI.Ok P t ⟨n, true, true, cs, fields⟩ := by
  cases hi : P.info? t with
  | none => rw [hi] at hinfo; cases hinfo
  | some ti =>
    rw [hi] at hinfo
    simp only [Option.map_some, Option.some.injEq, Prod.mk.injEq] at hinfo
    cases hei : P.info? e with
    | none => rw [hei] at he; cases he
    | some te =>
      rw [hei] at he
      simp only [Option.map_some, Option.some.injEq] at he
      refine ⟨⟨ti, _, hi, hinfo.2, hinfo.1, by simpa [Value.cells] using hn, fun S w => by simpa [Value.cells] using hm S w⟩, _, hu, rfl, rfl, by rw [hf]; simp, te, hei, ?_⟩
      intro j x hx
      rw [hf, List.getElem?_map] at hx
      rcases Nat.lt_or_ge j m with hlt | hge
      · rw [List.getElem?_range hlt] at hx
        simp only [Option.map_some, Option.some.injEq] at hx
        subst hx
        subst he
        exact ⟨rfl, hs⟩
      · rw [List.getElem?_eq_none (by simpa using hge)] at hx
        cases hx

theorem si_ok {e : TypeId} {s : Nat} {z : Value} {c : CV} {ez : List BV} (hu : P.underlying t = some (.slice e)) (hinfo : (P.info? e).map (fun i => (i.zero, i.size, Nat.ble i.bytes 4096)) = some (some z, s, true)) (hz : z.cells.size = s) (hs : 0 < s) (hc : c = .nat [] ∨ c = .sl s [] ∨ ∃ n, c = .sll n [])
    (hez : ∀ S w, All2 (BV.mean S w) ez z.cells.toList) (hen : ∀ l, c = .nat l → ez = [.val (.int .u32 0)]) (he1 : (ez.map CV.b).all CV.cell1 = true) : SI.Ok P t ⟨e, s, c, ez⟩ := by
  cases hi : P.info? e with
  | none => rw [hi] at hinfo; cases hinfo
  | some ti =>
    rw [hi] at hinfo
    simp only [Option.map_some, Option.some.injEq, Prod.mk.injEq] at hinfo
    refine ⟨hu, ⟨ti, z, hi, hinfo.2.1, hinfo.1, hz, Nat.le_of_ble_eq_true hinfo.2.2, hez⟩, hs, hen, he1, fun S w => ?_, hc⟩
    rcases hc with rfl | rfl | ⟨n, rfl⟩
    · exact Rd.nil_ S w
    · exact Row.nil_ S w _
    · exact Rows2.nil_ S w n
end

/-- The zero of a ratio. -/
abbrev zQ : List CV := [.val (.bool false), .nat [], .nat []]

def tis : List (Nat × TI) := [
  (3, ⟨1, false, false, [.val (.int .i64 0)], []⟩),
  (4, ⟨1, false, false, [.val (.bool false)], []⟩),
  (57, ⟨1, false, false, [.val (.int .i64 0)], []⟩),
  (125, ⟨1, false, false, [.val (.int .u64 0)], []⟩),
  (128, ⟨1, false, false, [.val (.int .u32 0)], []⟩),
  (32, ⟨1, false, false, [.nat []], []⟩),
  (43, ⟨1, false, false, [.sl 2 []], []⟩),
  (47, ⟨1, false, false, [.sl 2 []], []⟩),
  (52, ⟨1, false, false, [.sl 6 []], []⟩),
  (109, ⟨1, false, false, [.sll 6 []], []⟩),
  (129, ⟨1, false, false, [.sl 1 []], []⟩),
  (34, ⟨2, true, false, [.val (.bool false), .nat []], [(0, 1), (1, 1)]⟩),
  (36, ⟨3, true, false, zQ, [(0, 2), (2, 1)]⟩),
  (38, ⟨6, true, false, zQ ++ zQ, [(0, 3), (3, 3)]⟩),
  (23, ⟨2, true, false, [.val (.bool false), .val (.int .i64 0)], [(0, 1), (1, 1)]⟩),
  (80, ⟨24, true, true, zQ ++ zQ ++ (zQ ++ zQ) ++ (zQ ++ zQ) ++ (zQ ++ zQ), [(0, 6), (6, 6), (12, 6), (18, 6)]⟩),
  (25, ⟨2, true, false, [.val (.int .i64 0), .val (.int .i64 0)], [(0, 1), (1, 1)]⟩)]

def nils : List (Nat × SI) := [
  (43, ⟨25, 2, .sl 2 [], [.val (.int .i64 0), .val (.int .i64 0)]⟩),
  (47, ⟨23, 2, .sl 2 [], [.val (.bool false), .val (.int .i64 0)]⟩),
  (52, ⟨38, 6, .sl 6 [], [.val (.bool false), .nat [], .nat [], .val (.bool false), .nat [], .nat []]⟩),
  (109, ⟨52, 1, .sll 6 [], [.val (.slice none 0 0)]⟩),
  (129, ⟨3, 1, .sl 1 [], [.val (.int .i64 0)]⟩),
  (32, ⟨128, 1, .nat [], [.val (.int .u32 0)]⟩)]

def ints : List (Nat × IntKind) := [(3, .i64), (57, .i64), (125, .u64), (128, .u32), (5, .u8), (142, .u64)]

/-- Structs of exact cells, compared. -/
def eqTurn : List CV → List CV → Option Bool
  | [.b (.val (.bool a)), .b (.val (.int .i64 b))], [.b (.val (.bool c)), .b (.val (.int .i64 d))] => some (a == c && b == d)
  | _, _ => none
def eqSpot : List CV → List CV → Option Bool
  | [.b (.val (.int .i64 a)), .b (.val (.int .i64 b))], [.b (.val (.int .i64 c)), .b (.val (.int .i64 d))] => some (a == c && b == d)
  | _, _ => none

def eqs : List (Nat × (List CV → List CV → Option Bool)) := [
  (23, eqTurn),
  (25, eqSpot)]

theorem tis_ok : ∀ t i, (t, i) ∈ tis → TI.Ok Try.prog t i := by
  have zq : ∀ S w, All2 (CV.mean S w) zQ [.bool false, .slice none 0 0, .slice none 0 0] := fun S w => ⟨rfl, Rd.nil_ S w, Rd.nil_ S w, trivial⟩
  intro t i h
  simp only [tis, List.mem_cons, List.not_mem_nil, or_false, Prod.mk.injEq] at h
  rcases h with ⟨rfl, rfl⟩ | h
  · exact ti_one Try.underlying3 rfl (z := .int .i64 0) (by kernel_rfl) rfl (fun _ _ => rfl)
  rcases h with ⟨rfl, rfl⟩ | h
  · exact ti_one Try.underlying4 rfl (z := .bool false) (by kernel_rfl) rfl (fun _ _ => rfl)
  rcases h with ⟨rfl, rfl⟩ | h
  · exact ti_one Try.underlying57 rfl (z := .int .i64 0) (by kernel_rfl) rfl (fun _ _ => rfl)
  rcases h with ⟨rfl, rfl⟩ | h
  · exact ti_one Try.underlying125 rfl (z := .int .u64 0) (by kernel_rfl) rfl (fun _ _ => rfl)
  rcases h with ⟨rfl, rfl⟩ | h
  · exact ti_one Try.underlying128 rfl (z := .int .u32 0) (by kernel_rfl) rfl (fun _ _ => rfl)
  rcases h with ⟨rfl, rfl⟩ | h
  · exact ti_one Try.underlying32 rfl (z := .slice none 0 0) (by kernel_rfl) rfl (fun S w => Rd.nil_ S w)
  rcases h with ⟨rfl, rfl⟩ | h
  · exact ti_one Try.underlying43 rfl (z := .slice none 0 0) (by kernel_rfl) rfl (fun S w => Row.nil_ S w _)
  rcases h with ⟨rfl, rfl⟩ | h
  · exact ti_one Try.underlying47 rfl (z := .slice none 0 0) (by kernel_rfl) rfl (fun S w => Row.nil_ S w _)
  rcases h with ⟨rfl, rfl⟩ | h
  · exact ti_one Try.underlying52 rfl (z := .slice none 0 0) (by kernel_rfl) rfl (fun S w => Row.nil_ S w _)
  rcases h with ⟨rfl, rfl⟩ | h
  · exact ti_one Try.underlying109 rfl (z := .slice none 0 0) (by kernel_rfl) rfl (fun S w => Rows2.nil_ S w _)
  rcases h with ⟨rfl, rfl⟩ | h
  · exact ti_one Try.underlying129 rfl (z := .slice none 0 0) (by kernel_rfl) rfl (fun S w => Row.nil_ S w _)
  rcases h with ⟨rfl, rfl⟩ | h
  · exact ti_struct Try.underlying34 (zs := [.bool false, .slice none 0 0]) (by kernel_rfl) rfl (fun S w => ⟨rfl, Rd.nil_ S w, trivial⟩) (by kernel_rfl) rfl
  rcases h with ⟨rfl, rfl⟩ | h
  · exact ti_struct Try.underlying36 (zs := [.bool false, .slice none 0 0, .slice none 0 0]) (by kernel_rfl) rfl (fun S w => zq S w) (by kernel_rfl) rfl
  rcases h with ⟨rfl, rfl⟩ | h
  · exact ti_struct Try.underlying38 (zs := [.bool false, .slice none 0 0, .slice none 0 0, .bool false, .slice none 0 0, .slice none 0 0]) (by kernel_rfl) rfl (fun S w => (zq S w).append (zq S w)) (by kernel_rfl) rfl
  rcases h with ⟨rfl, rfl⟩ | h
  · exact ti_struct Try.underlying23 (zs := [.bool false, .int .i64 0]) (by kernel_rfl) rfl (fun S w => ⟨rfl, rfl, trivial⟩) (by kernel_rfl) rfl
  rcases h with ⟨rfl, rfl⟩ | h
  · exact ti_array Try.underlying80 (s := 6) (zs := [.bool false, .slice none 0 0, .slice none 0 0, .bool false, .slice none 0 0, .slice none 0 0] ++ [.bool false, .slice none 0 0, .slice none 0 0, .bool false, .slice none 0 0, .slice none 0 0] ++ [.bool false, .slice none 0 0, .slice none 0 0, .bool false, .slice none 0 0, .slice none 0 0] ++ [.bool false, .slice none 0 0, .slice none 0 0, .bool false, .slice none 0 0, .slice none 0 0]) (by kernel_rfl) rfl (fun S w => (((((zq S w).append (zq S w)).append ((zq S w).append (zq S w))).append ((zq S w).append (zq S w))).append ((zq S w).append (zq S w)))) (by kernel_rfl) rfl (by decide)
  obtain ⟨rfl, rfl⟩ := h
  exact ti_struct Try.underlying25 (zs := [.int .i64 0, .int .i64 0]) (by kernel_rfl) rfl (fun S w => ⟨rfl, rfl, trivial⟩) (by kernel_rfl) rfl

theorem nils_ok : ∀ t i, (t, i) ∈ nils → SI.Ok Try.prog t i := by
  intro t i h
  simp only [nils, List.mem_cons, List.not_mem_nil, or_false, Prod.mk.injEq] at h
  rcases h with ⟨rfl, rfl⟩ | h
  · exact si_ok Try.underlying43 (z := .agg #[.int .i64 0, .int .i64 0]) (by kernel_rfl) rfl (by decide) (.inr (.inl rfl)) (fun S w => ⟨rfl, rfl, trivial⟩) (fun l h => by cases h) rfl
  rcases h with ⟨rfl, rfl⟩ | h
  · exact si_ok Try.underlying47 (z := .agg #[.bool false, .int .i64 0]) (by kernel_rfl) rfl (by decide) (.inr (.inl rfl)) (fun S w => ⟨rfl, rfl, trivial⟩) (fun l h => by cases h) rfl
  rcases h with ⟨rfl, rfl⟩ | h
  · exact si_ok Try.underlying52 (z := .agg #[.bool false, .slice none 0 0, .slice none 0 0, .bool false, .slice none 0 0, .slice none 0 0]) (by kernel_rfl) rfl (by decide) (.inr (.inl rfl)) (fun S w => ⟨rfl, Rd.nil_ S w, Rd.nil_ S w, rfl, Rd.nil_ S w, Rd.nil_ S w, trivial⟩) (fun l h => by cases h) rfl
  rcases h with ⟨rfl, rfl⟩ | h
  · exact si_ok Try.underlying109 (z := .slice none 0 0) (by kernel_rfl) rfl (by decide) (.inr (.inr ⟨6, rfl⟩)) (fun S w => ⟨rfl, trivial⟩) (fun l h => by cases h) rfl
  rcases h with ⟨rfl, rfl⟩ | h
  · exact si_ok Try.underlying129 (z := .int .i64 0) (by kernel_rfl) rfl (by decide) (.inr (.inl rfl)) (fun S w => ⟨rfl, trivial⟩) (fun l h => by cases h) rfl
  obtain ⟨rfl, rfl⟩ := h
  exact si_ok Try.underlying32 (z := .int .u32 0) (by kernel_rfl) rfl (by decide) (.inl rfl) (fun S w => ⟨rfl, trivial⟩) (fun _ _ => rfl) rfl

theorem ints_ok : ∀ t k, (t, k) ∈ ints → Try.prog.underlying t = some (.int k) := by
  intro t i h
  simp only [ints, List.mem_cons, List.not_mem_nil, or_false, Prod.mk.injEq] at h
  rcases h with ⟨rfl, rfl⟩ | ⟨rfl, rfl⟩ | ⟨rfl, rfl⟩ | ⟨rfl, rfl⟩ | ⟨rfl, rfl⟩ | ⟨rfl, rfl⟩
  · exact Try.underlying3
  · exact Try.underlying57
  · exact Try.underlying125
  · exact Try.underlying128
  · exact Try.underlying5
  · exact Try.underlying142

theorem mixed : Try.prog.follows .mixedOrders = true := by kernel_rfl

end Go.Gm
