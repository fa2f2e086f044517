/-
  The frame of all proofs of this seat, part C: that what part B says of one operation is so. Plain theorems; no condition.
-/
import Derived.Test.YtihmifpdnipdmaaCoreB
set_option linter.all false
namespace Go.Gm
open Go.RowKit (Below)

section
variable {P : Program} {E : Env} {S : Nat → Prop} {bs : An} {bx : Bxs} {ρ : Operand → AV} {o : Oper} {a : Act} {w : World}

/-- The operation gives a value that is known so. -/
def Says (P : Program) (o : Oper) (a : Act) (w : World) (R : Value → World → Prop) : Prop :=
  ∀ (K : Act → World → Prop) (Q : Exit → Act → World → Prop), (∀ v w', R v w' → K (a.put o.dst v) w') → o.wp P a w K Q

theorem says_value {R : Value → World → Prop} {v : Value} {w' : World} (h : (execOp a.eval o).run P w = .ok (.value v) w') (hR : R v w') : Says P o a w R := by
  intro K Q hK
  unfold Oper.wp
  rw [h]
  exact hK v w' hR

theorem says_call {R : Value → World → Prop} {f : FuncId} {args : Array Value} {x : Res} (h : (execOp a.eval o).run P w = .ok (.enter f args) w) (hc : Calls P f args w (Get S w x))
    (hR : ∀ v w', x.mean (Or' S w) w' v → Ext w w' → R v w') : Says P o a w R := by
  intro K Q hK
  unfold Oper.wp
  rw [h]
  refine hc.mono ?_
  rintro e w' ⟨v, rfl, hx, he⟩
  exact hK v w' (hR v w' hx he)

/-- The value is known so, and the world has only grown. -/
def Fits (S : Nat → Prop) (bs : An) (w : World) (x : AV) (v : Value) (w' : World) : Prop := Ext w w' ∧ x.mean (Or' S w) bs w' v

theorem fits_pure {x : AV} {v : Value} (h : x.mean S bs w v) : Fits S bs w x v w := ⟨Ext.refl w, AV.mean.ext h (Ext.refl w) fun _ h _ => .inl h⟩

/-- What is said of the operation is so. -/
def Out.Good (P : Program) (o : Oper) (a : Act) (w : World) (S : Nat → Prop) (bs : An) : Out → Prop
  | .ok x => Says P o a w (Fits S bs w x)
  | .val pre x => pre → Says P o a w (Fits S bs w x)
  | .bad => True

theorem good_cond {b : Bool} {x : Out} (h : b = true → x.Good P o a w S bs) : (cond b x .bad).Good P o a w S bs := by
  cases b
  · trivial
  · exact h rfl

theorem nilTo_mean (hE : E.Ok P) {t : TypeId} {x : AV} {v : Value} (h : x.mean S bs w v) : (nilTo E t x).mean S bs w v := by
  unfold nilTo
  split
  · split
    · rename_i c hc
      have := (hE.nils _ _ (tnil_mem hc)).zero S w
      change c.zero.mean S w v
      have hv : v = .slice none 0 0 := h
      rw [hv]; exact this
    · exact h
  · exact h

theorem cells_mean {x : AV} {v : Value} {cs : List CV} (h : x.mean S bs w v) (hc : cellsOf x = some cs) (h1 : x.cell1 = true) : All2 (CV.mean S w) cs v.cells.toList := by
  cases x with
  | r x =>
    cases x with
    | one c =>
      simp only [cellsOf, Option.some.injEq] at hc
      subst hc
      have hv : v.cells = #[v] := by
        cases c with
        | b b =>
          cases b with
          | val u => have e : v = u := h; subst e; cases v <;> simp_all [AV.cell1, CV.cell1, Value.oneCell', Value.cells]
          | nat l => obtain ⟨_, _, _, rfl, _⟩ := h; rfl
        | sl n l => obtain ⟨_, _, rfl, _⟩ := h; rfl
        | sll n l => obtain ⟨_, _, rfl, _⟩ := h; rfl
        | any => simp [AV.cell1, CV.cell1] at h1
      rw [hv]
      exact ⟨h, trivial⟩
    | agg ds =>
      simp only [cellsOf, Option.some.injEq] at hc
      subst hc
      obtain ⟨vs, rfl, hm⟩ := h
      simpa [Value.cells] using hm
  | _ => simp [cellsOf] at hc

theorem box_at (hbx : Boxes S w bs bx) {k : Nat} {t : TypeId} {cs : List CV} (h : nth bx.b k = some (t, cs)) :
    ∃ b us, bs.b[k]? = some b ∧ w.heap[b]? = some (.cells us.toArray t (0, 0)) ∧ All2 (CV.mean S w) cs us := by
  rw [nth_eq] at h
  obtain ⟨b, hb, us, hh, hm⟩ := hbx.vars.get h
  exact ⟨b, us, hb, hh, hm⟩

theorem cellsAt_of_heap {b : Nat} {us : List Value} {t : TypeId} (h : w.heap[b]? = some (.cells us.toArray t (0, 0))) : CellsAt w b 0 us := by
  intro j u hj
  simp [World.cell?, h, hj]

theorem CellsAt.drop {b off : Nat} {us : List Value} (h : CellsAt w b off us) (n : Nat) : CellsAt w b (off + n) (us.drop n) := by
  intro j u hj
  rw [List.getElem?_drop] at hj
  have := h (n + j) u hj
  rwa [← Nat.add_assoc] at this

theorem CellsAt.take {b off : Nat} {us : List Value} (h : CellsAt w b off us) (n : Nat) : CellsAt w b off (us.take n) := by
  intro j u hj
  rw [List.getElem?_take] at hj
  split at hj
  · exact h j u hj
  · cases hj

theorem add_at (b off j : Nat) : (⟨b, off, none⟩ : Addr).add j = ⟨b, off + j, none⟩ := by
  unfold Addr.add; split <;> simp_all

/-- A variable read whole. -/
theorem load_at (hE : E.Ok P) {t : TypeId} {i : TI} (hi : tinfo t E.tis = some i) {b off : Nat} {us : List Value} (hc : CellsAt w b off us) {cs : List CV} (hm : All2 (CV.mean S w) cs us) (hl : us.length = i.size) {x : AV} (hx : mkAV i cs = some x) :
    ∃ v, (loadVar t ⟨b, off, none⟩).run P w = .ok v w ∧ x.mean S bs w v := by
  have ok := hE.tis _ _ (tinfo_mem hi)
  obtain ⟨ti, z, hti, hsz, _, _, _⟩ := ok.info
  obtain ⟨d, hd, hk⟩ := ok.under
  have hun : (underlying t).run P w = .ok d w := run_underlying hd w
  have hsize : (sizeOf t).run P w = .ok i.size w := by simp [sizeOf, typeInfo, hti, hsz]
  have hcells : (loadCells ⟨b, off, none⟩ i.size).run P w = .ok us.toArray w := by
    rw [← hl]
    exact run_loadCells_list w _ us (fun j v hj => by rw [add_at]; exact hc j v hj)
  have hagg : i.isAgg = true → (loadVar t ⟨b, off, none⟩).run P w = .ok (.agg us.toArray) w := by
    intro ha
    have hA : (isAgg t).run P w = .ok true w := by
      simp only [isAgg, Sem.run_bind, hun, Result.andThen_ok]
      cases d <;> simp_all
    simp [loadVar, hA, hsize, hcells]
  have hone : i.isAgg = false → ∀ u, us = [u] → (loadVar t ⟨b, off, none⟩).run P w = .ok u w := by
    intro ha u hu
    have hA : (isAgg t).run P w = .ok false w := by
      simp only [isAgg, Sem.run_bind, hun, Result.andThen_ok]
      cases d <;> simp_all
    have h0 := hc 0 u (by simp [hu])
    simp only [Nat.add_zero] at h0
    simp [loadVar, hA, h0]
  unfold mkAV at hx
  split at hx
  · rename_i ha
    injection hx with hx
    subst hx
    exact ⟨_, hagg ha, us, rfl, hm⟩
  · rename_i c ha
    injection hx with hx
    subst hx
    match us, hm with
    | [u], hm => exact ⟨u, hone ha u rfl, hm.1⟩
    | [], hm => exact hm.elim
    | _ :: _ :: _, hm => exact hm.2.elim
  · cases hx

theorem splice_mean {R : CV → Value → Prop} : ∀ {cs : List CV} {us : List Value} (off : Nat) {vs : List CV} {ws : List Value}, All2 R cs us → All2 R vs ws → off + ws.length ≤ us.length →
    All2 R (splice cs off vs) (us.take off ++ ws ++ us.drop (off + ws.length))
  | cs, us, 0, vs, ws, h, h', _ => by
    have e : vs.length = ws.length := h'.length
    cases cs <;> (simp only [splice, List.take_zero, List.nil_append, Nat.zero_add]; rw [e]; exact h'.append (h.drop _))
  | [], [], off + 1, vs, ws, _, _, hl => by simp at hl
  | c :: cs, u :: us, off + 1, vs, ws, ⟨h1, h2⟩, h', hl => by
    have := splice_mean off h2 h' (by simp at hl; omega)
    have e : off + 1 + ws.length = (off + ws.length) + 1 := by omega
    simp only [splice, List.take_succ_cons, List.cons_append, e, List.drop_succ_cons]
    exact ⟨h1, this⟩
  | [], _ :: _, _ + 1, _, _, h, _, _ => h.elim
  | _ :: _, [], _ + 1, _, _, h, _, _ => h.elim

theorem foldl_set (ws : List Value) : ∀ (i off : Nat) (cur : Array Value), off + i + ws.length ≤ cur.size →
    ((ws.zipIdx i).foldl (fun (cs : Array Value) (x : Value × Nat) => cs.setIfInBounds (off + x.2) x.1) cur).toList = cur.toList.take (off + i) ++ ws ++ cur.toList.drop (off + i + ws.length) := by
  induction ws with
  | nil => intro i off cur h; simp
  | cons v ws ih =>
    intro i off cur h
    simp only [List.zipIdx_cons, List.foldl_cons]
    have hi : off + i < cur.size := by simp at h; omega
    rw [ih (i + 1) off _ (by simp at h ⊢; omega)]
    have e : off + (i + 1) = off + i + 1 := by omega
    rw [e]
    simp only [Array.toList_setIfInBounds]
    have hlt : off + i < cur.toList.length := by simpa using hi
    rw [List.take_set, List.drop_set]
    rw [if_pos (by omega)]
    rw [List.take_succ_eq_append_getElem hlt, List.set_append_right _ _ (by simp; omega)]
    have e2 : off + i - (List.take (off + i) cur.toList).length = 0 := by simp; omega
    rw [e2]
    have e3 : off + i + 1 + ws.length = off + i + (v :: ws).length := by simp; omega
    rw [e3]
    simp

theorem fill_mean (fields : List (Nat × Nat)) (place : Nat → Option (Nat × Nat)) (hplace : ∀ i, place i = fields[i]?) :
    ∀ (ps : List (Nat × AV)) (qs : List (Nat × Value)) (cs : List CV) (cur : Array Value) (out : List CV),
      All2 (fun (p : Nat × AV) (q : Nat × Value) => p.1 = q.1 ∧ p.2.mean S bs w q.2) ps qs → All2 (CV.mean S w) cs cur.toList → fillA fields cs ps = some out →
      ∃ fin : Array Value, Instr.fill place cur qs = some fin ∧ All2 (CV.mean S w) out fin.toList
  | [], [], cs, cur, out, _, hm, h => by
    simp only [fillA, Option.some.injEq] at h
    subst h
    exact ⟨cur, rfl, hm⟩
  | (f, v) :: ps, (g, u) :: qs, cs, cur, out, ⟨⟨hfg, hv⟩, hrest⟩, hm, h => by
    simp only at hfg
    subst hfg
    unfold fillA at h
    split at h
    · rename_i vs off n hvs hf
      cases hb : (Nat.beq vs.length n && Nat.ble (off + vs.length) cs.length && v.cell1) with
      | false => rw [hb] at h; cases h
      | true =>
        rw [hb] at h
        simp only [Bool.and_eq_true] at hb
        obtain ⟨⟨hb1, hb2⟩, hb3⟩ := hb
        have e1 := Nat.eq_of_beq_eq_true hb1
        have e2 := Nat.le_of_ble_eq_true hb2
        have hu := cells_mean hv hvs hb3
        have e3 := hu.length
        have e4 := hm.length
        simp only [Array.length_toList] at e3 e4
        have hle : off + 0 + u.cells.toList.length ≤ cur.size := by simp; omega
        have hfold := foldl_set u.cells.toList 0 off cur hle
        have hpl : place f = some (off, n) := by rw [hplace, ← nth_eq]; exact hf
        have hsp := splice_mean off hm hu (by simp; omega)
        obtain ⟨fin, h1, h2⟩ := fill_mean fields place hplace ps qs (splice cs off vs) (u.cells.zipIdx.foldl (fun cs (x : Value × Nat) => cs.setIfInBounds (off + x.2) x.1) cur) out hrest (by
          rw [← Array.foldl_toList, Array.toList_zipIdx]
          rw [hfold]
          simpa using hsp) h
        refine ⟨fin, ?_, h2⟩
        unfold Instr.fill
        rw [hpl]
        simp only
        rw [if_neg (by simp; omega)]
        exact h1
    · cases h
  | [], _ :: _, _, _, _, h, _, _ => h.elim
  | _ :: _, [], _, _, _, h, _, _ => h.elim

theorem row_at (hbx : Boxes S w bs bx) {k : Nat} {r : Rw} (h : nth bx.r k = some r) : ∃ v, bs.v[k]? = some v ∧ r.mean S w v := by
  rw [nth_eq] at h
  exact hbx.rows.get h

/-- Elements of n cells each, laid one behind the other. -/
theorem flatten_get {α : Type} {n : Nat} : ∀ {l : List (List α)}, (∀ x, x ∈ l → x.length = n) → ∀ {i : Nat} {x : List α}, l[i]? = some x → ∀ {j : Nat}, j < n → l.flatten[i * n + j]? = x[j]?
  | [], _, i, x, h, _, _ => by simp at h
  | y :: l, hl, 0, x, h, j, hj => by
    simp only [List.getElem?_cons_zero, Option.some.injEq] at h
    subst h
    have := hl y (List.mem_cons_self ..)
    rw [List.flatten_cons, Nat.zero_mul, Nat.zero_add, List.getElem?_append_left (by omega)]
  | y :: l, hl, i + 1, x, h, j, hj => by
    have hy := hl y (List.mem_cons_self ..)
    rw [List.flatten_cons, List.getElem?_append_right (by rw [Nat.add_mul, Nat.one_mul]; omega)]
    have e : (i + 1) * n + j - y.length = i * n + j := by rw [Nat.add_mul, Nat.one_mul]; omega
    rw [e]
    exact flatten_get (fun x hx => hl x (List.mem_cons_of_mem _ hx)) (by simpa using h) hj

theorem flatten_len {α : Type} {n : Nat} : ∀ {l : List (List α)}, (∀ x, x ∈ l → x.length = n) → l.flatten.length = l.length * n
  | [], _ => by simp
  | y :: l, hl => by
    have hy := hl y (List.mem_cons_self ..)
    have ih := flatten_len (fun x hx => hl x (List.mem_cons_of_mem _ hx) : ∀ x, x ∈ l → x.length = n)
    rw [List.flatten_cons, List.length_append, ih, List.length_cons, Nat.add_mul, Nat.one_mul]; omega

/-- A block that holds rows of cells reads as a row. -/
theorem row_of_cells {A : Nat → Prop} {b n cap : Nat} {l : List (List BV)} {us : List Value} (hn : ∀ x, x ∈ l → x.length = n) (hm : All2 (BV.mean A w) l.flatten us) (h1c : ∀ u, u ∈ us → u.oneCell' = true) (hA : 0 < l.length → A b ∧ b < w.heap.size) (hc : CellsAt w b 0 us) (hcap : l.length ≤ cap) :
    Row A w n l (.slice (some ⟨b, 0, none⟩) l.length cap) := by
  refine ⟨_, _, rfl, hcap, fun h0 => ⟨b, 0, rfl, (hA h0).1, (hA h0).2, fun i x hx => ?_⟩⟩
  have hil := (List.getElem?_eq_some_iff.1 hx).1
  have hxl := hn x (List.mem_of_getElem? hx)
  have hfl := flatten_len hn
  have hul := hm.length
  have hle : i * n + n ≤ us.length := by
    rw [← hul, hfl]
    have : (i + 1) * n ≤ l.length * n := Nat.mul_le_mul_right _ hil
    rw [Nat.add_mul, Nat.one_mul] at this
    exact this
  refine ⟨(us.drop (i * n)).take n, by simp; omega, fun u hu => h1c u (List.mem_of_mem_drop (List.mem_of_mem_take hu)), ?_, ?_⟩
  · have h1 := (hm.drop (i * n)).take n
    have e : (l.flatten.drop (i * n)).take n = x := by
      apply List.ext_getElem?
      intro j
      rw [List.getElem?_take]
      split
      · rename_i hj
        rw [List.getElem?_drop, flatten_get hn hx hj]
      · rw [List.getElem?_eq_none (by omega)]
    rw [e] at h1
    exact h1
  · intro j u hj
    rw [List.getElem?_take] at hj
    split at hj
    · rw [List.getElem?_drop] at hj
      have := hc _ u hj
      rw [← this]
      congr 2
      omega
    · cases hj

/-- A row of the call's own reads as a slice. -/
def Rw.cv : Rw → Option CV
  | .n _ l => some (.nat l)
  | .s _ k l => some (.sl k l)
  | .ll _ k l => some (.sll k l)
  | .dead => none

theorem Rw.cv_mean {A : Nat → Prop} {r : Rw} {c : CV} {v : Value} (h : r.mean S w v) (hc : r.cv = some c) (hA : ∀ b, S b → b < w.heap.size → A b) (hv : ∀ b, v.ownBlock = some b → A b) : c.mean A w v := by
  have K : Keeps S A w w := Keeps.to hA
  cases r with
  | n e l =>
    injection hc with hc
    subst hc
    obtain ⟨hl, hlen, ho⟩ := h
    rcases ho with ⟨rfl, hn⟩ | ⟨g, cap, cur, rfl, _, hg, hcap, _, hsz, htake⟩
    · have : l = [] := List.eq_nil_of_length_eq_zero hn
      subst this
      exact Rd.nil_ A w
    · refine ⟨hl, _, _, rfl, hcap, fun h0 => ⟨g, 0, rfl, hv g rfl, lt_of_heap hg, fun i hi => ?_⟩⟩
      have h1 : cur.toList[i]? = some (.int .u32 ((l[i] : Nat) : Int)) := by
        have : (cur.toList.take (l.length * 1))[i]? = some (.int .u32 ((l[i] : Nat) : Int)) := by rw [htake]; simp [hi]
        rw [List.getElem?_take] at this
        split at this
        · exact this
        · cases this
      have h2 : l.getD i 0 = l[i] := by simp [hi]
      rw [h2]
      simp only [World.cell?, hg, Nat.zero_add]
      simpa using h1
  | s e k l =>
    injection hc with hc
    subst hc
    obtain ⟨us, ⟨hlen, ho⟩, h1c, hm, hn⟩ := h
    rcases ho with ⟨rfl, h0⟩ | ⟨g, cap, cur, rfl, _, hg, hcap, _, hsz, htake⟩
    · have : l = [] := List.eq_nil_of_length_eq_zero h0
      subst this
      exact Row.nil_ A w k
    · refine row_of_cells hn (hm.imp fun _ _ h => h.keep K) h1c (fun _ => ⟨hv g rfl, lt_of_heap hg⟩) ?_ hcap
      intro j u hj
      rw [← htake, List.getElem?_take] at hj
      split at hj
      · simp only [World.cell?, hg, Nat.zero_add]
        simpa using hj
      · cases hj
  | ll e k l =>
    injection hc with hc
    subst hc
    obtain ⟨us, ⟨hlen, ho⟩, hm⟩ := h
    rcases ho with ⟨rfl, h0⟩ | ⟨g, cap, cur, rfl, _, hg, hcap, _, hsz, htake⟩
    · have : l = [] := List.eq_nil_of_length_eq_zero h0
      subst this
      exact Rows2.nil_ A w k
    · refine ⟨_, _, rfl, hcap, fun h0 => ⟨g, 0, rfl, hv g rfl, lt_of_heap hg, fun i x hx => ?_⟩⟩
      obtain ⟨u, hu, hr⟩ := hm.get hx
      refine ⟨u, hr.keep K, ?_⟩
      rw [← htake, List.getElem?_take] at hu
      split at hu
      · simp only [World.cell?, hg, Nat.zero_add]
        simpa using hu
      · cases hu
  | dead => cases hc

/-- A slice that is written out. -/
theorem fill_parts (size : Nat) : ∀ (us : List Value) (i : Nat) (cur : Array Value), (∀ u, u ∈ us → u.cells.size = size) → cur.size = (i + us.length) * size →
    ∃ fin, Instr.fill (fun i => some (i * size, size)) cur (us.zipIdx i |>.map fun x => (x.2, x.1)) = some fin ∧ fin.toList = cur.toList.take (i * size) ++ (us.map fun u => u.cells.toList).flatten
  | [], i, cur, _, hs => ⟨cur, rfl, by
    simp only [List.length_nil, Nat.add_zero] at hs
    rw [← hs]
    simp only [List.map_nil, List.flatten_nil, List.append_nil]
    rw [List.take_of_length_le (by simp)]⟩
  | u :: us, i, cur, hu, hs => by
    have h1 := hu u (List.mem_cons_self ..)
    have hs' : cur.size = (i + 1 + us.length) * size := by rw [hs]; simp; congr 1; omega
    have hle : i * size + 0 + u.cells.toList.length ≤ cur.size := by
      rw [hs', Nat.add_mul, Nat.add_mul, Nat.one_mul]
      simp
      omega
    have hfold := foldl_set u.cells.toList 0 (i * size) cur hle
    have hfs : (u.cells.zipIdx.foldl (fun cs (x : Value × Nat) => cs.setIfInBounds (i * size + x.2) x.1) cur).toList = cur.toList.take (i * size) ++ u.cells.toList ++ cur.toList.drop (i * size + u.cells.toList.length) := by
      rw [← Array.foldl_toList, Array.toList_zipIdx]
      rw [hfold]
      simp
    have hsz2 : (u.cells.zipIdx.foldl (fun cs (x : Value × Nat) => cs.setIfInBounds (i * size + x.2) x.1) cur).size = (i + 1 + us.length) * size := by
      rw [← Array.length_toList, hfs, ← hs']
      have hl3 : u.cells.toList.length = size := by simpa using h1
      have hl4 : cur.toList.length = cur.size := by simp
      simp only [List.length_append, List.length_take, List.length_drop, hl3, hl4]
      rw [hl3] at hle
      generalize i * size = p at hle ⊢
      omega
    obtain ⟨fin, hfin, hl⟩ := fill_parts size us (i + 1) _ (fun v hv => hu v (List.mem_cons_of_mem _ hv)) hsz2
    refine ⟨fin, ?_, ?_⟩
    · simp only [List.zipIdx_cons, List.map_cons]
      unfold Instr.fill
      simp only
      rw [if_neg (by simp only [h1, ne_eq, not_true, decide_false, Bool.false_or, decide_eq_true_eq]; simp at hle; omega)]
      exact hfin
    · rw [hl, hfs]
      simp only [List.map_cons, List.flatten_cons]
      have e : (i + 1) * size = i * size + size := by rw [Nat.add_mul, Nat.one_mul]
      rw [e]
      have hl1 : (cur.toList.take (i * size)).length = i * size := by
        rw [List.length_take, Array.length_toList]
        simp at hle
        omega
      have hl2 : u.cells.toList.length = size := by simpa using h1
      rw [List.take_left' (by rw [List.length_append, hl1, hl2]), List.append_assoc]

end
end Go.Gm
