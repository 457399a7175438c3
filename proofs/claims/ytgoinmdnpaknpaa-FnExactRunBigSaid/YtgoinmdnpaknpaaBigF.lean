/- Programs done with fuel: a call's variables, and the calls it has put off. Plain lemmas. -/
import Derived.Test.YtgoinmdnpaknpaaBigE
import Derived.Test.YtgoinmdnpaknpaaSlc
set_option linter.unusedVariables false
set_option linter.unusedSimpArgs false
set_option maxRecDepth 100000
namespace Go.Proofs.Ytgoinmdnpaknpaa
open Go.RowKit
theorem run_copyN {P : Program} (w : World) (dT sT ty elem : TypeId) (s g o dLen dCap sCap : Nat) (t : TypeId) (cur : List Value)
    (hu : P.underlying dT = some (.slice elem)) (hs : (P.info? elem).map (·.size) = some s) (hg : w.heap[g]? = some (.cells cur.toArray t (0, 0))) :
    (Builtin.copy_ #[dT, sT] ty #[.slice (some ⟨g, o, none⟩) dLen dCap, .slice none 0 sCap]).run P w = .ok (goInt 0) w := by
  cases hq : P.info? elem with
  | none => simp [hq] at hs
  | some i =>
    have hi : i.size = s := by simpa [hq] using hs
    simp [Builtin.copy_, run_underlying hu, Builtin.lenOf, Builtin.firstCells, sizeOf, typeInfo, hq, hi, storeCells]
/-- A call's variables: what it is given, and zeros. -/
def varsOf (given : List Int) (v : Nat) : List Int := given ++ List.replicate (v - given.length) 0
theorem varsOf_len {given : List Int} {v : Nat} (h : given.length ≤ v) : (varsOf given v).length = v := by unfold varsOf; simp; omega
theorem wpl_copyInts {P : Program} {ops : Array Oper} {rest : List Oper} {o : Oper} {a : Act} {w : World} {Q : Exit → Act → World → Prop} (hgd : o.guard = none) (d x : Operand) (dT sT : TypeId)
    (ho : o.op = .call { callee := .builtin .copy, args := #[d, x], argTypes := #[dT, sT] }) (elem : TypeId) (hu : P.underlying dT = some (.slice elem)) (hs : (P.info? elem).map (·.size) = some 1)
    (g v p cp lo hi : Nat) (A : Option Addr) (given : List Int) (hd : a.eval d = .slice (some ⟨g, 0, none⟩) v v) (hx : a.eval x = .slice A p cp) (hsl : Sl intR w lo hi A p cp given) (hpv : p ≤ v) (t : TypeId)
    (hg : w.heap[g]? = some (.cells (List.replicate v (Value.int .i64 0)).toArray t (0, 0)))
    (h : ∀ w' k, w'.heap[g]? = some (.cells ((varsOf given v).map (Value.int .i64)).toArray t (0, 0)) → Fr [g] w w' → wpList P ops Q rest (a.put o.dst (goInt k)) w') : wpList P ops Q (o :: rest) a w := by
  have hl := hsl.lenEq
  cases A with
  | none =>
    have hnil := sl_nil_addr hsl
    subst hnil
    simp only [List.length_nil] at hl
    subst hl
    refine wpList_plain hgd fun K hK => ?_
    have hrun := run_copyN (P := P) w dT sT o.type elem 1 g 0 v v cp t _ hu hs hg
    unfold Oper.wp
    simp only [execOp, ho, resolve, invoke, builtin, Sem.run_bind, Sem.run_pure, Result.andThen_ok, List.map_toArray, List.map_cons, List.map_nil, hd, hx, hrun]
    refine hK _ _ (h _ 0 ?_ (Fr.refl _ _))
    rw [hg]; simp [varsOf]
  | some ad =>
    have hmin : Nat.min p v = p := Nat.min_eq_left hpv
    refine wpList_copyS hgd d x dT sT ho elem 1 hu hs g 0 v v ad p cp hd hx (List.replicate v (Value.int .i64 0)) t hg (given.map (Value.int .i64)) (by rw [hmin]; simp; omega) (fun j u hj => ?_) (by simp; omega) (by intro u hu; simp at hu; obtain ⟨y, _, rfl⟩ := hu; rfl) ?_
    · rw [List.getElem?_map] at hj
      cases hj2 : given[j]? with
      | none => rw [hj2] at hj; simp at hj
      | some y =>
        rw [hj2] at hj
        simp only [Option.map_some, Option.some.injEq] at hj
        subst hj
        have hjl : j < given.length := (List.getElem?_eq_some_iff.1 hj2).1
        obtain ⟨b, off, hb, _, _, hc, _⟩ := hsl.int_at (k := j) (by omega)
        injection hb with hb
        subst hb
        have e : (⟨b, off, none⟩ : Addr).add j = ⟨b, off + j, none⟩ := by unfold Addr.add; simp
        rw [e, hc]
        congr 2
        exact (List.getElem?_eq_some_iff.1 hj2).2
    · intro w' hw'
      obtain ⟨h1, h2⟩ := setRow_at hg hw'.out
      refine h w' _ ?_ h2
      rw [h1]
      congr 3
      unfold splice varsOf
      simp [hl]
theorem vars_own {w : World} {g v : Nat} {given : List Int} {t : TypeId} (hg : w.heap[g]? = some (.cells ((varsOf given v).map (Value.int .i64)).toArray t (0, 0))) (hi : ∀ x, x ∈ given → I32 x) (hv : given.length ≤ v) (hm : v ≤ 100) :
    OwnSl intR w t [g] (.slice (some ⟨g, 0, none⟩) v v) (varsOf given v) := by
  have hl := varsOf_len hv
  have h := own_ints (w := w) (base := 0) (e := t) (v := .slice (some ⟨g, 0, none⟩) v v) (l := varsOf given v) ⟨by simp [hl], Or.inr ⟨g, v, _, by rw [hl], Nat.zero_le _, hg, by omega, by unfold maxLen; omega, by simpa using hl, by rw [hl, Nat.mul_one, List.take_of_length_le (by simp [hl])]⟩⟩ (fun x hx => by
    unfold varsOf at hx
    rcases List.mem_append.1 hx with hx | hx
    · have := hi x hx; unfold I32 at this; unfold I64; omega
    · rw [(List.mem_replicate.1 hx).2]; unfold I64; omega)
  simpa [Value.ownBlock] using h
/-- What is so of a call before its body. -/
theorem callStart {M : MCfg} {C : BCfg} {B c g fn : Nat} {y : Option Nat} {b : Option BEnd} {w w6 : World} {Ft : List Nat} {vt : Value} {deep v q : Nat} {st : BSt} {given : List Int} (G : CfgG C) (hctx : Ctx M C B w) (hm : MSt M C w deep 0 vt Ft st) (hy : ByIn w y b) (hb : ByOk b) (hnd : (M.R :: (Ft ++ y.toList)).Nodup) (hge : ∀ k, k ∈ M.R :: (Ft ++ y.toList) → B ≤ k) (hfn : fn < C.p.length) (hv : (C.fn fn).2.1.toNat = v)
    (hlen : given.length ≤ v) (hsm : ∀ x, x ∈ given → I32 x) (hs : StOk C 600 st) (hq : st.fuel = q + 1) (hdeep : deep + 1 ≤ C.most)
    (hrun : RunB M C.most w6 (deep + 1 : Nat) 0 vt q st.used) (hcl : ClB w6 c fn (.slice (some ⟨g, 0, none⟩) v v) 0 (.slice none 0 0) 0 0 false y) (hvars : OwnSl intR w6 3 [g] (.slice (some ⟨g, 0, none⟩) v v) (varsOf given v)) (hf : Fr [M.R] w w6) (hg : w.heap.size ≤ g) (hc : g < c) :
    PreSt M C B c fn y w6 Ft [g] [] vt (.slice (some ⟨g, 0, none⟩) v v) (.slice none 0 0) (deep + 1) ⟨varsOf given v, [], 0, b⟩ { st with fuel := q } ∧ ByUp w w6 y b b := by
  have hnd' := hnd
  rw [List.nodup_cons, List.nodup_append] at hnd'
  obtain ⟨h1, h2, h3, h4⟩ := hnd'
  simp only [List.mem_append, not_or, Option.mem_toList] at h1
  have hR : M.R < w.heap.size := blk_size hm.run
  have hlt : ∀ k, k ∈ Ft → k < w.heap.size := hm.tr.lt
  have hyl : ∀ k, y = some k → k < w.heap.size := hy.lt
  have hBw := hctx.le
  have hu : ByUp w w6 y b b := ByUp.fr hy hf (fun k hk hk2 => h1.2 (by rw [← List.mem_singleton.1 hk2]; exact hk))
  have hs2 := hs.burn (by omega)
  rw [hq, Nat.add_sub_cancel] at hs2
  have hvb := (G.funcs _ (fn_mem hfn).1).vars
  have hpb := (G.funcs _ (fn_mem hfn).1).par
  have hl := hs.long
  refine ⟨⟨hctx.fr hf (fun k hk => by rw [List.mem_singleton.1 hk]; exact hge _ (List.mem_cons_self ..)), ⟨hrun, hm.tr.fr hf (not_one h1.1)⟩, ⟨hcl, hvars, OwnSl.nil_ ..⟩, hy.up hu, ⟨?_, fun k hk => ?_⟩, hfn, hs2.more (by omega), ⟨?_, fun n hn => ?_, by simp only [List.length_nil]; omega, by simp, by unfold I32; simp, hb⟩, by omega, hdeep⟩, hu⟩
  · unfold GB
    rw [List.nodup_cons, List.nodup_append, List.nodup_cons, List.nil_append, List.singleton_append, List.nodup_cons]
    simp only [List.mem_append, List.mem_cons, not_or, Option.mem_toList]
    refine ⟨⟨h1.1, by omega, by omega, h1.2⟩, h2, ⟨⟨by omega, fun h => by have := hyl c h; omega⟩, fun h => by have := hyl g h; omega, h3⟩, fun a ha d hd e => ?_⟩
    subst e
    have := hlt a ha
    rcases hd with hd | hd | hd
    · omega
    · omega
    · exact h4 a ha a (by simpa using hd) rfl
  · unfold GB at hk
    simp only [List.mem_cons, List.mem_append, List.mem_nil_iff, or_false, false_or, List.nil_append, List.singleton_append] at hk
    rcases hk with rfl | hk | rfl | rfl | hk
    · exact hge _ (List.mem_cons_self ..)
    · exact hge _ (List.mem_cons_of_mem _ (List.mem_append_left _ hk))
    · omega
    · omega
    · exact hge _ (List.mem_cons_of_mem _ (List.mem_append_right _ hk))
  · simp only; rw [varsOf_len hlen, hv]
  · simp only at hn
    unfold varsOf at hn
    rcases List.mem_append.1 hn with hn | hn
    · exact hsm n hn
    · rw [(List.mem_replicate.1 hn).2]; unfold I32; omega
/-- A call that does what it has put off. -/
structure OffSt (M : MCfg) (C : BCfg) (N B c fn : Nat) (y : Option Nat) (b : Option BEnd) (w : World) (Ft : List Nat) (vv : Value) (res : Int) (by1 : Option BEnd) (deep : Nat) (wr : World) (Ft1 : List Nat) (vt1 vo1 : Value) (Fo1 : List Nat) (offs : List Int) (x : BEnd) (pn : Int) (st1 : BSt) : Prop where
  ctx : Ctx M C B wr
  m : MSt M C wr (deep + 1 : Nat) 0 vt1 Ft1 st1
  cl : ClB wr c fn vv res vo1 x.how pn x.ex y
  pan : x.how = 2 → pn = x.val
  pn64 : I64 pn
  off : OwnSl intR wr 3 Fo1 vo1 offs
  ok : ByOk (some x)
  sok : StOk C 600 st1
  fuel : st1.fuel ≤ N
  offs : ∀ g, g ∈ offs → 0 ≤ g ∧ g < C.p.length ∧ (C.fn g.toNat).1 = 0
  fr_ : Fr (M.R :: (Ft ++ y.toList)) w wr
  inn : ∀ k, k ∈ Ft1 → k ∈ Ft ∨ w.heap.size ≤ k
  by_ : ByUp w wr y b by1
  byin : ByIn wr y by1
  sep : Sep M B Ft1 c [] Fo1 y
  cnew : w.heap.size ≤ c
  res32 : I32 res
section
variable {M : MCfg} {C : BCfg} {N B c fn : Nat} {y : Option Nat} {b : Option BEnd} {w wr w' : World} {Ft Ft1 Ft2 Fo1 : List Nat} {vv vt1 vt2 vo1 : Value} {res : Int} {by1 : Option BEnd} {deep : Nat} {offs : List Int} {x x2 : BEnd} {pn : Int} {st1 st2 : BSt}
theorem OffSt.below (h : OffSt M C N B c fn y b w Ft vv res by1 deep wr Ft1 vt1 vo1 Fo1 offs x pn st1) (hb : Below wr.heap.size wr w') : OffSt M C N B c fn y b w Ft vv res by1 deep w' Ft1 vt1 vo1 Fo1 offs x pn st1 := by
  have hf : Fr [] wr w' := Fr.of_below hb
  have hu := ByUp.fr h.byin hf (fun k _ hk => by cases hk)
  exact ⟨h.ctx.fr hf (fun k hk => by cases hk), h.m.fr hf (by simp) (by simp), h.cl.fr hf (by simp), h.pan, h.pn64, h.off.below hb, h.ok, h.sok, h.fuel, h.offs, FrR.trans h.fr_ hf (fun k hk => by cases hk), h.inn, h.by_.trans hu, h.byin.up hu, h.sep, h.cnew, h.res32⟩
theorem sepO (h : Sep M B Ft1 c [] Fo1 y) : M.R ∉ Ft1 ∧ M.R ≠ c ∧ M.R ∉ Fo1 ∧ c ∉ Ft1 ∧ c ∉ Fo1 ∧ (∀ k, k ∈ Ft1 → k ∉ Fo1) ∧ (∀ k, y = some k → k ≠ M.R ∧ k ≠ c ∧ k ∉ Ft1 ∧ k ∉ Fo1) := by
  obtain ⟨p1, p2, p3, p4, p5, p6, p7, p8, p9, p10⟩ := h.parts
  exact ⟨p1, p2, p4, p5, p7, fun k hk => (p8 k hk).2, fun k hk => ⟨(p10 k hk).1, (p10 k hk).2.1, (p10 k hk).2.2.1, (p10 k hk).2.2.2.2⟩⟩
/-- The call's own block has turned. -/
theorem OffSt.put (h : OffSt M C N B c fn y b w Ft vv res by1 deep wr Ft1 vt1 vo1 Fo1 offs x pn st1) {vo2 : Value} {Fo2 : List Nat} {offs2 : List Int} {pn2 : Int} (hf : Fr [c] wr w') (hcl : ClB w' c fn vv res vo2 x2.how pn2 x2.ex y) (hp : x2.how = 2 → pn2 = x2.val) (hpn : I64 pn2) (hok : ByOk (some x2)) (ho : OwnSl intR w' 3 Fo2 vo2 offs2) (hF : ∀ k, k ∈ Fo2 → k ∈ Fo1) (hofs : ∀ g, g ∈ offs2 → g ∈ offs) :
    OffSt M C N B c fn y b w Ft vv res by1 deep w' Ft1 vt1 vo2 Fo2 offs2 x2 pn2 st1 := by
  obtain ⟨p1, p2, p3, p4, p5, p6, p7⟩ := sepO h.sep
  have hu := ByUp.fr h.byin hf (fun k hk hk2 => (p7 k hk).2.1 (List.mem_singleton.1 hk2))
  have hsep : Sep M B Ft1 c [] Fo2 y := h.sep.grow (N := wr.heap.size) (ownB_nd h.m.tr) (by simp) (ownB_nd ho) (fun k hk => Or.inl hk) (fun k hk => Or.inl (hF k hk)) (fun k hk hk2 => by have := h.m.tr.lt k hk; omega) (fun k hk => by
    unfold GB at hk
    simp only [List.mem_cons, List.mem_append, List.nil_append, Option.mem_toList] at hk
    rcases hk with rfl | hk | rfl | hk | hk
    · exact blk_size h.m.run
    · exact h.m.tr.lt k hk
    · exact blk_size h.cl
    · exact h.off.lt k hk
    · exact h.byin.lt k hk) h.ctx.le
  exact ⟨h.ctx.fr hf (fun k hk => by rw [List.mem_singleton.1 hk]; exact h.sep.ge _ (by unfold GB; simp)), h.m.fr hf (by simpa using p2) (not_one p4), hcl, hp, hpn, ho, hok, h.sok, h.fuel, fun g hg => h.offs g (hofs g hg), FrR.trans h.fr_ hf (fun k hk => Or.inr (by rw [List.mem_singleton.1 hk]; exact h.cnew)), h.inn, h.by_.trans hu, h.byin.up hu, hsep, h.cnew, h.res32⟩
/-- What is as it was behind a call that was put off. -/
theorem OffSt.called (h : OffSt M C N B c fn y b w Ft vv res by1 deep wr Ft1 vt1 vo1 Fo1 offs x pn st1) (hf : Fr (M.R :: (Ft1 ++ (some c).toList)) wr w') (hin : ∀ k, k ∈ Ft2 → k ∈ Ft1 ∨ wr.heap.size ≤ k) (hnd : (M.R :: (Ft2 ++ (some c).toList)).Nodup) (hown : OwnSl intR w' 3 Ft2 vt2 st2.tr) :
    Ctx M C B w' ∧ OwnSl intR w' 3 Fo1 vo1 offs ∧ Fr (M.R :: (Ft ++ y.toList)) w w' ∧ (∀ k, k ∈ Ft2 → k ∈ Ft ∨ w.heap.size ≤ k) ∧ ByUp w w' y b by1 ∧ ByIn w' y by1 ∧ Sep M B Ft2 c [] Fo1 y := by
  obtain ⟨p1, p2, p3, p4, p5, p6, p7⟩ := sepO h.sep
  have hmem : ∀ k, k ∈ M.R :: (Ft1 ++ (some c).toList) ↔ k = M.R ∨ k ∈ Ft1 ∨ k = c := fun k => by simp
  have hsz := h.fr_.size
  have hu := ByUp.fr h.byin hf (fun k hk hk2 => by
    rcases (hmem k).1 hk2 with h1 | h1 | h1
    · exact (p7 k hk).1 h1
    · exact (p7 k hk).2.2.1 h1
    · exact (p7 k hk).2.1 h1)
  refine ⟨h.ctx.fr hf (fun k hk => ?_), h.off.fr hf (fun k hk hk2 => ?_), FrR.trans h.fr_ hf (fun k hk => ?_), fun k hk => ?_, h.by_.trans hu, h.byin.up hu, h.sep.grow (N := wr.heap.size) (ownB_nd hown) (by simp) (ownB_nd h.off) hin (fun k hk => Or.inl hk) (fun k hk hk2 hk3 => by have := h.off.lt k hk3; omega) (fun k hk => ?_) h.ctx.le⟩
  · rcases (hmem k).1 hk with rfl | h1 | rfl
    · exact h.sep.ge _ (by unfold GB; simp)
    · exact h.sep.ge _ (by unfold GB; simp [h1])
    · exact h.sep.ge _ (by unfold GB; simp)
  · rcases (hmem k).1 hk2 with rfl | h1 | rfl
    · exact p3 hk
    · exact p6 k h1 hk
    · exact p5 hk
  · rcases (hmem k).1 hk with rfl | h1 | rfl
    · exact Or.inl (by simp)
    · rcases h.inn k h1 with h2 | h2
      · exact Or.inl (by simp [h2])
      · exact Or.inr h2
    · exact Or.inr h.cnew
  · rcases hin k hk with h1 | h1
    · exact h.inn k h1
    · exact Or.inr (by omega)
  · unfold GB at hk
    simp only [List.mem_cons, List.mem_append, List.nil_append, Option.mem_toList] at hk
    rcases hk with rfl | hk | rfl | hk | hk
    · exact blk_size h.m.run
    · exact h.m.tr.lt k hk
    · exact blk_size h.cl
    · exact h.off.lt k hk
    · exact h.byin.lt k hk
/-- Nodup of what a call may turn, without its own blocks. -/
theorem sep_nd (h : Sep M B Ft1 c [] Fo1 y) : (M.R :: (Ft1 ++ y.toList)).Nodup := by
  have h1 := h.nd
  unfold GB at h1
  refine List.Sublist.nodup ?_ h1
  exact List.Sublist.cons_cons _ (List.Sublist.append (List.Sublist.refl _) (List.Sublist.cons _ (by rw [List.nil_append]; exact List.sublist_append_right _ _)))
end
end Go.Proofs.Ytgoinmdnpaknpaa
