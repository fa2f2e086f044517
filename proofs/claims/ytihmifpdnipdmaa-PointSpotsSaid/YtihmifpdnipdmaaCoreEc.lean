/-
  The frame of all proofs of this seat, part Ec: that what part Eb says of rows is so. Plain theorems; no condition.
-/
import Derived.Test.YtihmifpdnipdmaaCoreEb
set_option linter.all false
namespace Go.Gm
open Go.RowKit (Below)

section
variable {P : Program} {E : Env} {S : Nat → Prop} {bs : An} {bx : Bxs} {ρ : Operand → AV} {a : Act} {w : World}

/-- Allowed, and there already. -/
def Lt (S : Nat → Prop) (w : World) (b : Nat) : Prop := S b ∧ b < w.heap.size

/-- Only one row may have turned. -/
theorem grown_keeps {w' : World} {row : Option Nat} (hg : w.grownBy w' row) (hS : ∀ b, S b → row ≠ some b) : Keeps S (Lt S w) w w' :=
  ⟨hg.size, fun b hb hlt => ⟨⟨hb, hlt⟩, hg.block b hlt (fun e => hS b hb e.symm)⟩⟩

theorem append_any (hE : E.Ok P) {t ty : TypeId} {s : SI} (hs : tnil t E.nils = some s) {v : Value} {n : Nat} {xs : List Value} (hown : w.ownsRow 0 s.elem s.esize v n xs) {ad : Option Addr} {m c : Nat} {news : List Value} (hl : news.length = m * s.esize)
    (hsrc : (ad = none ∧ m = 0) ∨ ∃ q, ad = some q ∧ ∀ j u, news[j]? = some u → w.cell? (q.add j) = some u) (h1 : ∀ u, u ∈ news → u.oneCell' = true) (hb : n + m ≤ 1000000) :
    ∃ v' w', (Builtin.append_ #[t, t] ty #[v, .slice ad m c]).run P w = .ok v' w' ∧ w'.ownsRow 0 s.elem s.esize v' (n + m) (xs ++ news) ∧ w.grownBy w' v.ownBlock ∧ (v'.ownBlock = v.ownBlock ∨ v'.ownBlock = some w.heap.size) := by
  have ok := hE.nils _ _ (tnil_mem hs)
  obtain ⟨ti, z, hti, hsz, hz, hzs, hbytes, _⟩ := ok.size
  rcases hsrc with ⟨rfl, rfl⟩ | ⟨q, rfl, hq⟩
  · have : news = [] := List.eq_nil_of_length_eq_zero (by simpa using hl)
    subst this
    refine ⟨v, w, ?_, by simpa using hown, ⟨rfl, rfl, rfl, Nat.le_refl _, fun _ _ _ => rfl⟩, .inl rfl⟩
    rcases hown.2 with ⟨rfl, rfl⟩ | ⟨g, cap, cur, rfl, _, _, hnc, _⟩
    · simp [Builtin.append_, run_underlying ok.under, sizeOf, typeInfo, hti, Builtin.lenOf, Builtin.firstCells]
    · simp [Builtin.append_, run_underlying ok.under, sizeOf, typeInfo, hti, Builtin.lenOf, Builtin.firstCells, hnc, storeCells]
  · obtain ⟨v', w', h1', h2, h3, _, h5⟩ := run_append_own_at (P := P) w 0 t ty s.elem ti z s.esize ti.bytes ok.under hti hz hsz rfl hzs ok.pos v n xs hown q m c news hl hq h1 (by unfold maxLen; omega) (by
      have := Nat.mul_le_mul hb hbytes
      omega) (Nat.zero_le _)
    exact ⟨v', w', h1', h2, h3, h5⟩

theorem appRw_ok (hE : E.Ok P) {t ty : TypeId} {s : SI} (hs : tnil t E.nils = some s) {r r' : Rw} {v u : Value} {y : AV} {pre : Prop} (hr : r.mean S w v) (he : (∃ l, r = .n s.elem l ∧ s.esize = 1) ∨ (∃ l, r = .s s.elem s.esize l) ∨ (∃ n l, r = .ll s.elem n l ∧ s.esize = 1)) (hS : ∀ b, S b → v.ownBlock ≠ some b)
    (hy : y.mean S bs w u) (h : appRw r y = some (pre, r')) (hp : pre) :
    ∃ v' w', (Builtin.append_ #[t, t] ty #[v, u]).run P w = .ok v' w' ∧ r'.mean (Lt S w) w' v' ∧ w.grownBy w' v.ownBlock ∧ (v'.ownBlock = v.ownBlock ∨ v'.ownBlock = some w.heap.size) ∧ r'.isDead = false ∧
      ((∃ l, r' = .n s.elem l ∧ s.esize = 1) ∨ (∃ l, r' = .s s.elem s.esize l) ∨ (∃ n l, r' = .ll s.elem n l ∧ s.esize = 1)) := by
  rcases he with ⟨l, rfl, e1⟩ | ⟨l, rfl⟩ | ⟨n, l, rfl, e1⟩
  · unfold appRw at h
    split at h
    · rename_i e' l' l2 er
      cases er
      simp only [Option.some.injEq, Prod.mk.injEq] at h
      obtain ⟨h1, rfl⟩ := h
      obtain ⟨hl, hown⟩ := hr
      obtain ⟨ad, c, hv, hsrc⟩ := nat_src (S := S) hy
      rw [hv]
      obtain ⟨v', w', g1, g2, g3, g4⟩ := append_any hE (ty := ty) hs (by rw [e1]; exact hown) (ad := ad) (m := l2.length) (c := c) (news := l2.map fun (x : Nat) => Value.int .u32 (x : Int)) (by rw [e1]; simp) (by
        rcases hsrc with ⟨h, h'⟩ | h
        · exact .inl ⟨h, by rw [h']; rfl⟩
        · exact .inr h) (fun u hu => by obtain ⟨x, _, rfl⟩ := List.mem_map.1 hu; rfl) (by rw [← h1] at hp; exact hp)
      refine ⟨v', w', g1, ⟨hl.append hy.1, ?_⟩, g3, g4, rfl, .inl ⟨_, rfl, e1⟩⟩
      rw [e1] at g2
      rw [List.length_append, List.map_append]
      exact g2
    · rename_i e' n' l' m l2 er
      cases er
    · rename_i e' n' l' m l2 er
      cases er
    · cases h
  · unfold appRw at h
    split at h
    · rename_i e' l' l2 er
      cases er
    · rename_i e' n' l' m l2 er
      cases er
      cases hm : Nat.beq m s.esize with
      | false => rw [hm] at h; cases h
      | true =>
        rw [hm] at h
        have em := Nat.eq_of_beq_eq_true hm
        subst em
        simp only [cond_true, Option.some.injEq, Prod.mk.injEq] at h
        obtain ⟨h1, rfl⟩ := h
        obtain ⟨us, hown, hc, hmu, hn⟩ := hr
        obtain ⟨ad, c, us2, hv, hl2, hc2, hm2, hsrc⟩ := row_src (S := S) hy
        rw [hv]
        obtain ⟨v', w', g1, g2, g3, g4⟩ := append_any hE (ty := ty) hs hown (ad := ad) (m := l2.length) (c := c) (news := us2) hl2 (by
          rcases hsrc with ⟨h, h'⟩ | h
          · exact .inl ⟨h, by rw [h']; rfl⟩
          · exact .inr h) hc2 (by rw [← h1] at hp; exact hp)
        have K := grown_keeps g3 hS
        refine ⟨v', w', g1, ⟨us ++ us2, ?_, fun u hu => (List.mem_append.1 hu).elim (hc u) (hc2 u), ?_, ?_⟩, g3, g4, rfl, .inr (.inl ⟨_, rfl⟩)⟩
        · rw [List.length_append]; exact g2
        · rw [List.flatten_append]
          exact (hmu.imp fun _ _ h => h.keep K).append (hm2.imp fun _ _ h => h.keep K)
        · intro x hx
          rcases List.mem_append.1 hx with hx | hx
          · exact hn x hx
          · obtain ⟨k, hk⟩ := List.getElem?_of_mem hx
            obtain ⟨ad', c', _, _, hr'⟩ := hy
            obtain ⟨b, off, _, _, _, hcell⟩ := hr' (by
              have := (List.getElem?_eq_some_iff.1 hk).1
              omega)
            obtain ⟨us', p1, _, p2, _⟩ := hcell k x hk
            rw [p2.length, p1]
    · rename_i e' n' l' m l2 er
      cases er
    · cases h
  · unfold appRw at h
    split at h
    · rename_i e' l' l2 er
      cases er
    · rename_i e' n' l' m l2 er
      cases er
    · rename_i e' n' l' m l2 er
      cases er
      cases hm : Nat.beq m n with
      | false => rw [hm] at h; cases h
      | true =>
        rw [hm] at h
        have em := Nat.eq_of_beq_eq_true hm
        subst em
        simp only [cond_true, Option.some.injEq, Prod.mk.injEq] at h
        obtain ⟨h1, rfl⟩ := h
        obtain ⟨us, hown, hmu⟩ := hr
        obtain ⟨ad, c, hv, _, hr2⟩ := hy
        -- the cells of the source
        have hcells : ∃ us2 : List Value, All2 (Row S w m) l2 us2 ∧ ((ad = none ∧ l2 = []) ∨ ∃ q, ad = some q ∧ ∀ j u, us2[j]? = some u → w.cell? (q.add j) = some u) := by
          cases l2 with
          | nil => exact ⟨[], trivial, by
              cases ad with
              | none => exact .inl ⟨rfl, rfl⟩
              | some q => exact .inr ⟨q, rfl, fun j u hj => by simp at hj⟩⟩
          | cons x l2 =>
            obtain ⟨b, off, rfl, _, _, hcell⟩ := hr2 (by simp)
            have key : ∀ (q : List (List (List BV))) (i : Nat), (∀ k y, q[k]? = some y → ∃ u, Row S w m y u ∧ w.cell? ⟨b, off + (i + k), none⟩ = some u) → ∃ us : List Value, All2 (Row S w m) q us ∧ ∀ j u, us[j]? = some u → w.cell? ⟨b, off + (i + j), none⟩ = some u := by
              intro q
              induction q with
              | nil => intro i _; exact ⟨[], trivial, fun j u hj => by simp at hj⟩
              | cons y q ih =>
                intro i hq
                obtain ⟨u1, p1, p2⟩ := hq 0 y rfl
                obtain ⟨us, q1, q2⟩ := ih (i + 1) (fun k z hz => by
                  obtain ⟨u, r1, r2⟩ := hq (k + 1) z (by simpa using hz)
                  exact ⟨u, r1, by rwa [show i + (k + 1) = i + 1 + k by omega] at r2⟩)
                refine ⟨u1 :: us, ⟨p1, q1⟩, fun j u hj => ?_⟩
                cases j with
                | zero => simp only [List.getElem?_cons_zero, Option.some.injEq] at hj; subst hj; exact p2
                | succ j => have := q2 j u (by simpa using hj); rwa [show i + 1 + j = i + (j + 1) by omega] at this
            obtain ⟨us2, q1, q2⟩ := key (x :: l2) 0 (fun k y hy => by rw [Nat.zero_add]; exact hcell k y hy)
            exact ⟨us2, q1, .inr ⟨_, rfl, fun j u hj => by rw [add_at]; have := q2 j u hj; rwa [Nat.zero_add] at this⟩⟩
        obtain ⟨us2, hm2, hsrc⟩ := hcells
        have hl2 := hm2.length
        rw [hv]
        obtain ⟨v', w', g1, g2, g3, g4⟩ := append_any hE (ty := ty) hs (by rw [e1]; exact hown) (ad := ad) (m := l2.length) (c := c) (news := us2) (by rw [e1, hl2]; simp) (by
          rcases hsrc with ⟨h, h'⟩ | h
          · exact .inl ⟨h, by rw [h']; rfl⟩
          · exact .inr h) (fun u hu => by
            obtain ⟨k, hk⟩ := List.getElem?_of_mem hu
            have hkl : k < l2.length := by rw [hl2]; exact (List.getElem?_eq_some_iff.1 hk).1
            obtain ⟨v, hv', hrow⟩ := hm2.get (List.getElem?_eq_getElem hkl)
            rw [hk] at hv'
            injection hv' with hv'
            subst hv'
            obtain ⟨_, _, rfl, _⟩ := hrow
            rfl) (by rw [← h1] at hp; exact hp)
        have K := grown_keeps g3 hS
        refine ⟨v', w', g1, ⟨us ++ us2, ?_, (hmu.imp fun _ _ h => h.keep K).append (hm2.imp fun _ _ h => h.keep K)⟩, g3, g4, rfl, .inr (.inr ⟨_, _, rfl, e1⟩)⟩
        rw [e1] at g2
        rw [List.length_append]; exact g2
    · cases h

def RowSays (P : Program) (o : Oper) (a : Act) (w : World) (S : Nat → Prop) (bs : An) (bx : Bxs) : RowAct → Prop
  | .mk r => ∃ v w', (execOp a.eval o).run P w = .ok (.value v) w' ∧ r.mean (Lt S w) w' v ∧ r.isDead = false ∧ Ext w w' ∧ ∀ b, v.ownBlock = some b → w.heap.size ≤ b
  | .app k r => ∃ r0 v v' w', nth bx.r k = some r0 ∧ bs.v[k]? = some v ∧ r0.isDead = false ∧ (execOp a.eval o).run P w = .ok (.value v') w' ∧ r.mean (Lt S w) w' v' ∧ r.isDead = false ∧ w.grownBy w' v.ownBlock ∧ (v'.ownBlock = v.ownBlock ∨ v'.ownBlock = some w.heap.size)
  | .set k r => ∃ r0 v w', nth bx.r k = some r0 ∧ bs.v[k]? = some v ∧ r0.isDead = false ∧ (execOp a.eval o).run P w = .ok .skip w' ∧ r.mean (Lt S w) w' v ∧ r.isDead = false ∧ w.grownBy w' v.ownBlock
  | .cp k r n => ∃ r0 v w', nth bx.r k = some r0 ∧ bs.v[k]? = some v ∧ r0.isDead = false ∧ (execOp a.eval o).run P w = .ok (.value (.int .i64 n)) w' ∧ r.mean (Lt S w) w' v ∧ r.isDead = false ∧ w.grownBy w' v.ownBlock

  | .dig k r v => ∃ r0 v0, nth bx.r k = some r0 ∧ bs.v[k]? = some v0 ∧ r0.isDead = false ∧ r.isDead = false ∧ ∀ (KK : Act → World → Prop) (Q : Exit → Act → World → Prop), (∀ w', r.mean (Lt S w) w' v0 → w.grownBy w' v0.ownBlock → KK (a.put o.dst v) w') → o.wp P a w KK Q

variable {dst : Option Tmp} {type : TypeId} {pos : String} {after : Array Edge} {guard : Option (Nat × Bool)}

theorem grown_ext {w' : World} (h : w.grownBy w' none) : Ext w w' := ⟨h.os, h.tape, h.output, h.size, fun k hk => h.block k hk (by simp)⟩

theorem setRow_grown {g : Nat} {cs : Array Value} : w.grownBy (w.setRow g cs) (some g) :=
  ⟨rfl, rfl, rfl, by simp [World.setRow], fun k _ hk => setRow_other w g k cs (fun e => hk (by simpa using e))⟩

theorem row_make (hE : E.Ok P) (hρ : ∀ x, (ρ x).mean S bs w (a.eval x)) {t : TypeId} {x y : Operand} {s : SI} (hs : tnil t E.nils = some s) {m c : Int} (hx : ρ x = .val (.int .i64 m)) (hy : ρ y = .val (.int .i64 c)) (hp : 0 ≤ m ∧ m ≤ c ∧ c ≤ 1000000) :
    ∃ (cur : Array Value), (execOp a.eval ⟨dst, .makeSlice t x y, type, pos, after, guard⟩).run P w = .ok (.value (.slice (some ⟨w.heap.size, 0, none⟩) m.toNat c.toNat)) (w.alloc (.cells cur s.elem)) ∧ cur.size = c.toNat * s.esize ∧
      ∃ zs : List Value, zs.length = s.esize ∧ (∀ A w, All2 (BV.mean A w) s.ezero zs) ∧ cur.toList = (List.replicate c.toNat zs).flatten := by
  have ex := val_mean (hρ x) hx
  have ey := val_mean (hρ y) hy
  have ok := hE.nils _ _ (tnil_mem hs)
  obtain ⟨ti, z, hti, hsz, hz, hzs, hbytes, hzm⟩ := ok.size
  have hb : (ti.bytes : Int) * c ≤ 281474976710656 := by
    have h1 : ti.bytes * c.toNat ≤ 4096 * 1000000 := Nat.mul_le_mul hbytes (by omega)
    have h2 : ((ti.bytes * c.toNat : Nat) : Int) ≤ ((4096 * 1000000 : Nat) : Int) := Int.ofNat_le.2 h1
    rw [Int.natCast_mul, Int.toNat_of_nonneg (by omega)] at h2
    omega
  have hr := run_make (P := P) w t s.elem ti z ok.under hti hz .i64 .i64 m c hp.1 hp.2.1 hb (by omega)
  rw [hsz] at hr
  refine ⟨madeCells z.cells (c.toNat * s.esize), ?_, ?_, z.cells.toList, by simpa using hzs, hzm, ?_⟩
  · simp only [execOp, ex, ey, Sem.run_bind, hr, Result.andThen_ok, Sem.run_pure]
  · rw [size_madeCells]
  · rw [← hzs]
    exact made_eq (by rw [hzs]; exact ok.pos)

theorem take_rep {α : Type} {n m k : Nat} {xs : List α} (hx : xs.length = k) (hm : m ≤ n) : (List.replicate n xs).flatten.take (m * k) = (List.replicate m xs).flatten := by
  have : List.replicate n xs = List.replicate m xs ++ List.replicate (n - m) xs := by
    rw [List.replicate_append_replicate]; congr 1; omega
  rw [this, List.flatten_append, List.take_left']
  have := flatten_len (l := List.replicate m xs) (n := k) (fun x h => by rw [(List.mem_replicate.1 h).2]; exact hx)
  simpa using this

theorem take_splice {α : Type} (L U : List α) (p N : Nat) (h : p + U.length ≤ N) (hN : N ≤ L.length) : (L.take p ++ U ++ L.drop (p + U.length)).take N = (L.take N).take p ++ U ++ (L.take N).drop (p + U.length) := by
  have hl : (L.take p).length = p := by rw [List.length_take]; omega
  have h1 : (L.take N).take p = L.take p := by rw [List.take_take, Nat.min_eq_left (by omega)]
  have h2 : (L.take N).drop (p + U.length) = (L.drop (p + U.length)).take (N - (p + U.length)) := List.drop_take
  rw [h1, h2, List.take_append]
  have hlu : (L.take p ++ U).length = p + U.length := by rw [List.length_append, hl]
  rw [hlu, List.take_of_length_le (by rw [hlu]; exact h)]

theorem row_store (hE : E.Ok P) (hρ : ∀ x, (ρ x).mean S bs w (a.eval x)) {t : TypeId} {x y : Operand} {i : TI} (hi : tinfo t E.tis = some i) {k sz j : Nat} (hx : ρ x = .ownAt k sz j) {e n : Nat} {us ws : List Value}
    (hown : ∀ v, bs.v[k]? = some v → w.ownsRow 0 e sz v n us) (hj : j < n) (hws : (a.eval y).cells.toList = ws) (hwl : ws.length = sz) (hsz : i.size = sz) (h1 : ∀ v, v ∈ ws → v.oneCell' = true) :
    ∃ v w', bs.v[k]? = some v ∧ (execOp a.eval ⟨dst, .store t x y, type, pos, after, guard⟩).run P w = .ok .skip w' ∧ w'.ownsRow 0 e sz v n (us.take (j * sz) ++ ws ++ us.drop (j * sz + sz)) ∧ w.grownBy w' v.ownBlock := by
  have hm := hρ x
  rw [hx] at hm
  obtain ⟨b, n', c, hv, he⟩ := hm
  have ho := hown _ hv
  obtain ⟨g, cap, cur, hvv, hg, htake, hncap, hcs⟩ := own_form ho (by omega)
  injection hvv with hvv1 hvv2 hvv3
  injection hvv1 with hvv1
  injection hvv1 with hvv1
  subst hvv1
  subst hvv2
  subst hvv3
  have hle : j * sz + sz ≤ n' * sz := by
    have : (j + 1) * sz ≤ n' * sz := Nat.mul_le_mul_right _ hj
    rw [Nat.add_mul, Nat.one_mul] at this
    exact this
  have hle2 : n' * sz ≤ c * sz := Nat.mul_le_mul_right _ hncap
  obtain ⟨ti, z, hti, htsz, _⟩ := (hE.tis _ _ (tinfo_mem hi)).info
  have hst := run_storeCells_at (P := P) b (j * sz) e ws 0 cur w hg (by rw [hcs, hwl]; omega) h1
  refine ⟨_, w.setRow b (cur.toList.take (j * sz) ++ ws ++ cur.toList.drop (j * sz + sz)).toArray, hv, ?_, ?_, setRow_grown⟩
  rotate_left 1
  · refine ⟨?_, .inr ⟨b, c, (cur.toList.take (j * sz) ++ ws ++ cur.toList.drop (j * sz + sz)).toArray, rfl, Nat.zero_le _, setRow_heap w b cur _ e (0, 0) hg, hncap, ?_, ?_, ?_⟩⟩
    · have := ho.1
      simp only [List.length_append, List.length_take, List.length_drop, hwl, this]
      omega
    · rcases ho.2 with ⟨h0, _⟩ | ⟨g', cap', cur', hv', _, _, _, hmax, _⟩
      · cases h0
      · injection hv' with _ _ h3
        rw [h3]
        exact hmax
    · simp only [List.size_toArray, List.length_append, List.length_take, List.length_drop, hwl, Array.length_toList, hcs]
      omega
    · rw [← htake]
      have := take_splice cur.toList ws (j * sz) (n' * sz) (by rw [hwl]; exact hle) (by rw [Array.length_toList, hcs]; exact hle2)
      rw [hwl] at this
      exact this
  · have hsize : (a.eval y).cells.size = ti.size := by rw [← Array.length_toList, hws]; omega
    have hsv : (storeVar t ⟨b, j * sz, none⟩ (a.eval y)).run P w = .ok () (w.setRow b (cur.toList.take (j * sz) ++ ws ++ cur.toList.drop (j * sz + sz)).toArray) := by
      simp only [storeVar, sizeOf, typeInfo, Sem.run_bind, run_program, Result.andThen_ok, hti, Sem.run_pure, hsize, ne_eq, not_true, if_false, hws, hst]
      simp [hwl]
    simp only [execOp, Instr.storeAt, he, Instr.sureAddr, Sem.run_bind, Sem.run_pure, Result.andThen_ok, hsv]

end
end Go.Gm
