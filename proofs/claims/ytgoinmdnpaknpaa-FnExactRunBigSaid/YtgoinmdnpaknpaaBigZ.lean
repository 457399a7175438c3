/- Programs done with fuel: the reference's call. Plain lemmas. -/
import Derived.Test.YtgoinmdnpaknpaaBigNe
import Derived.Test.YtgoinmdnpaknpaaBigG
import Derived.Deep.CutBlock
set_option linter.unusedVariables false
set_option linter.unusedSimpArgs false
set_option maxRecDepth 100000
namespace Go.Proofs.Ytgoinmdnpaknpaa
open Go.RowKit
/-- A slice is made in a drawn region. -/
theorem upon_makeZ {P : Program} (w : World) {o : Oper} {a : Act} {K : Act → World → Prop} {Q : Exit → Act → World → Prop} (t : TypeId)
    (e : TypeId) (i : TypeInfo) (z : Value) (size : Nat) (h1 : P.underlying t = some (.slice e)) (h2 : P.info? e = some i) (h3 : i.zero = some z) (h4 : i.size = size)
    (n : Nat) (b2 : i.bytes * n ≤ 281474976710656) (b3 : n ≤ maxLen)
    (h : ∀ w', w'.ownsRow 0 e size (.slice (some ⟨w.heap.size, 0, none⟩) n n) n (madeCells z.cells (n * size)).toList → w.grownBy w' none → K (a.put o.dst (.slice (some ⟨w.heap.size, 0, none⟩) n n)) w') :
    Oper.upon P o a K Q ((Sem.run P (Instr.makeSlice t (.int .i64 n) (.int .i64 n)) w).andThen fun a w' => Result.ok (Next.value a) w') := by
  obtain ⟨w', hrun, r1, r2⟩ := run_make_full (P := P) w 0 t e i z size h1 h2 h3 h4 .i64 .i64 n b2 b3 (Nat.zero_le _)
  rw [hrun]
  exact h _ r1 r2
/-- What is so of the reference's call before its body. -/
theorem callStartS {M : MCfg} {C : BCfg} {B c g fn y : Nat} {F : FCf} {b : Option BEnd} {w w6 : World} {Ft : List Nat} {vt : Value} {deep v q : Nat} {st : BSt} {given : List Int} (G : CfgG C) (hctx : Ctx M C B w) (hcode : Sl StmtR w 0 B F.As F.ns F.cs (C.fn fn).2.2.2) (hm : MtS M C w vt Ft st) (hy : ByS w y b) (hb : ByOk b) (hnd : (M.R :: (Ft ++ [y])).Nodup) (hge : ∀ k, k ∈ M.R :: (Ft ++ [y]) → B ≤ k) (hfn : fn < C.p.length) (hv : (C.fn fn).2.1.toNat = v)
    (hlen : given.length ≤ v) (hsm : ∀ x, x ∈ given → I32 x) (hs : StOk C 600 st) (hq : st.fuel = q + 1) (hdeep : deep + 1 ≤ C.most)
    (hrun : RunS M C.most w6 vt q st.used) (hcl : ClS w6 c F (.slice (some ⟨g, 0, none⟩) v v) (.slice none 0 0) 0 (deep + 1) y) (hvars : OwnSl intR w6 3 [g] (.slice (some ⟨g, 0, none⟩) v v) (varsOf given v)) (hf : Fr [M.R] w w6) (hg : w.heap.size ≤ g) (hc : g < c) :
    PrS M C B c fn F y w6 Ft [g] [] vt (.slice (some ⟨g, 0, none⟩) v v) (.slice none 0 0) (deep + 1) ⟨varsOf given v, [], 0, b⟩ { st with fuel := q } := by
  have hnd' := hnd
  rw [List.nodup_cons, List.nodup_append] at hnd'
  obtain ⟨h1, h2, h3, h4⟩ := hnd'
  simp only [List.mem_append, not_or, List.mem_singleton] at h1
  have hR : M.R < w.heap.size := blk_size hm.run
  have hlt : ∀ k, k ∈ Ft → k < w.heap.size := hm.tr.lt
  have hyl := hy.lt
  have hBw := hctx.le
  have hs2 := hs.burn (by omega)
  rw [hq, Nat.add_sub_cancel] at hs2
  have hl := hs.long
  have hge1 : ∀ k, k ∈ [M.R] → B ≤ k := fun k hk => by rw [List.mem_singleton.1 hk]; exact hge _ (List.mem_cons_self ..)
  refine ⟨hctx.fr hf hge1, slB hcode hBw hf hge1, ⟨hrun, hm.tr.fr hf (not_one h1.1)⟩, ⟨hcl, hvars, OwnSl.nil_ ..⟩, hy.fr hf (fun h => h1.2 (List.mem_singleton.1 h).symm), ⟨?_, fun k hk => ?_⟩, hfn, hs2.more (by omega), ⟨?_, fun n hn => ?_, by simp only [List.length_nil]; omega, by simp, by unfold I32; simp, hb⟩, by omega, hdeep⟩
  · unfold GB
    rw [List.nodup_cons, List.nodup_append, List.nodup_cons, List.nil_append, List.singleton_append, List.nodup_cons]
    simp only [List.mem_append, List.mem_cons, not_or, Option.toList_some, List.mem_nil_iff, or_false]
    refine ⟨⟨h1.1, by omega, by omega, h1.2⟩, h2, ⟨⟨by omega, by omega⟩, by omega, by simp⟩, fun a ha d hd e => ?_⟩
    subst e
    have := hlt a ha
    rcases hd with hd | hd | hd
    · omega
    · omega
    · exact h4 a ha a (by simp [hd]) rfl
  · unfold GB at hk
    simp only [List.mem_cons, List.mem_append, List.mem_nil_iff, or_false, false_or, List.nil_append, List.singleton_append, Option.toList_some] at hk
    rcases hk with rfl | hk | rfl | rfl | rfl
    · exact hge _ (List.mem_cons_self ..)
    · exact hge _ (List.mem_cons_of_mem _ (List.mem_append_left _ hk))
    · omega
    · omega
    · exact hge _ (List.mem_cons_of_mem _ (List.mem_append_right _ (by simp)))
  · simp only; rw [varsOf_len hlen, hv]
  · simp only at hn
    unfold varsOf at hn
    rcases List.mem_append.1 hn with hn | hn
    · exact hsm n hn
    · rw [(List.mem_replicate.1 hn).2]; unfold I32; omega
/-- A call that does what it has put off. -/
structure OfS (M : MCfg) (C : BCfg) (N B c fn : Nat) (F : FCf) (y : Nat) (w : World) (Ft : List Nat) (vv : Value) (res : Int) (by1 : Option BEnd) (deep X xb : Nat) (vo : Value) (Fo : List Nat) (offs : List Int) (wr : World) (Ft1 : List Nat) (vt1 : Value) (x : BEnd) (st1 : BSt) : Prop where
  ctx : Ctx M C B wr
  m : MtS M C wr vt1 Ft1 st1
  cl : ClS wr c F vv vo res (deep + 1) y
  en : ByS wr xb (some x)
  off : OwnSl intR wr 3 Fo vo offs
  ok : ByOk (some x)
  sok : StOk C 600 st1
  fuel : st1.fuel ≤ N
  offs : ∀ g, g ∈ offs → 0 ≤ g ∧ g < C.p.length ∧ (C.fn g.toNat).1 = 0
  fr_ : Fr (M.R :: (Ft ++ [y])) w wr
  inn : ∀ k, k ∈ Ft1 → k ∈ Ft ∨ w.heap.size ≤ k
  by_ : ByS wr y by1
  sep : Sep M B Ft1 c [] Fo (some y)
  cnew : w.heap.size ≤ c
  xnew : w.heap.size ≤ xb ∧ xb ∉ GB M Ft1 c [] Fo (some y)
  end_ : EndB wr X
  Xnew : w.heap.size ≤ X ∧ X ∉ GB M Ft1 c [] Fo (some y) ∧ X ≠ xb
  res32 : I32 res
  base : B ≤ w.heap.size
section
variable {M : MCfg} {C : BCfg} {N B c fn : Nat} {F : FCf} {y : Nat} {w wr w' : World} {Ft Ft1 Ft2 Fo : List Nat} {vv vt1 vt2 vo : Value} {res : Int} {by1 : Option BEnd} {deep X xb : Nat} {offs : List Int} {x x2 : BEnd} {st1 st2 : BSt}
theorem memG {k : Nat} : k ∈ GB M Ft1 c [] Fo (some y) ↔ k = M.R ∨ k ∈ Ft1 ∨ k = c ∨ k ∈ Fo ∨ k = y := by unfold GB; simp
/-- Blocks that are none of the call's have turned, or the ending's own. -/
theorem OfS.put {G : List Nat} (h : OfS M C N B c fn F y w Ft vv res by1 deep X xb vo Fo offs wr Ft1 vt1 x st1) (hf : Fr G wr w') (hG : ∀ k, k ∈ G → w.heap.size ≤ k ∧ k ∉ GB M Ft1 c [] Fo (some y) ∧ k ≠ X) (he : ByS w' xb (some x2)) (hok : ByOk (some x2)) : OfS M C N B c fn F y w Ft vv res by1 deep X xb vo Fo offs w' Ft1 vt1 x2 st1 := by
  have n : ∀ k, k ∈ GB M Ft1 c [] Fo (some y) → k ∉ G := fun k hk hk2 => (hG k hk2).2.1 hk
  have hB : ∀ k, k ∈ G → B ≤ k := fun k hk => by have := (hG k hk).1; have := h.base; omega
  exact ⟨h.ctx.fr hf hB, h.m.fr hf (n _ (memG.2 (Or.inl rfl))) (fun k hk => n k (memG.2 (by simp [hk]))), h.cl.fr hf (n _ (memG.2 (by simp))), he, h.off.fr hf (fun k hk => n k (memG.2 (by simp [hk]))), hok, h.sok, h.fuel, h.offs, FrR.trans h.fr_ hf (fun k hk => Or.inr (hG k hk).1), h.inn, h.by_.fr hf (n _ (memG.2 (by simp))), h.sep, h.cnew, h.xnew, fr_atX hf (fun hk => (hG X hk).2.2 rfl) h.end_, h.Xnew, h.res32, h.base⟩
theorem OfS.below (h : OfS M C N B c fn F y w Ft vv res by1 deep X xb vo Fo offs wr Ft1 vt1 x st1) (hb : Below wr.heap.size wr w') : OfS M C N B c fn F y w Ft vv res by1 deep X xb vo Fo offs w' Ft1 vt1 x st1 :=
  h.put (Fr.of_below (F := []) hb) (by simp) (h.en.fr (Fr.of_below (F := []) hb) (by simp)) h.ok
/-- Behind a call that was put off. -/
theorem OfS.called (h : OfS M C N B c fn F y w Ft vv res by1 deep X xb vo Fo offs wr Ft1 vt1 x st1) (hf : Fr (M.R :: (Ft1 ++ [xb])) wr w') (hin : ∀ k, k ∈ Ft2 → k ∈ Ft1 ∨ wr.heap.size ≤ k) (hnd : (M.R :: (Ft2 ++ [xb])).Nodup) :
    Ctx M C B w' ∧ ClS w' c F vv vo res (deep + 1) y ∧ OwnSl intR w' 3 Fo vo offs ∧ Fr (M.R :: (Ft ++ [y])) w w' ∧ (∀ k, k ∈ Ft2 → k ∈ Ft ∨ w.heap.size ≤ k) ∧ ByS w' y by1 ∧ Sep M B Ft2 c [] Fo (some y) ∧ EndB w' X ∧ xb ∉ GB M Ft2 c [] Fo (some y) ∧ X ∉ GB M Ft2 c [] Fo (some y) := by
  obtain ⟨p1, p2, p3, p4, p5, p6, p7⟩ := sepO h.sep
  have hm : ∀ k, k ∈ M.R :: (Ft1 ++ [xb]) ↔ k = M.R ∨ k ∈ Ft1 ∨ k = xb := fun k => by simp
  obtain ⟨x1, x2'⟩ := h.xnew
  obtain ⟨X1, X2, X3⟩ := h.Xnew
  have hsz := h.fr_.size
  have hge : ∀ k, k ∈ M.R :: (Ft1 ++ [xb]) → B ≤ k := fun k hk => by
    rcases (hm k).1 hk with rfl | h1 | rfl
    · exact h.sep.ge _ (memG.2 (Or.inl rfl))
    · exact h.sep.ge _ (memG.2 (by simp [h1]))
    · have := h.base; omega
  have hlt : ∀ k, k ∈ GB M Ft1 c [] Fo (some y) → k < wr.heap.size := fun k hk => by
    rcases memG.1 hk with rfl | hk | rfl | hk | rfl
    · exact blk_size h.m.run
    · exact h.m.tr.lt k hk
    · exact blk_size h.cl
    · exact h.off.lt k hk
    · exact h.by_.lt
  have hxl := h.en.lt
  have hXl := blk_size h.end_
  refine ⟨h.ctx.fr hf hge, h.cl.fr hf (fun hk => ?_), h.off.fr hf (fun k hk hk2 => ?_), FrR.trans h.fr_ hf (fun k hk => ?_), fun k hk => ?_, h.by_.fr hf (fun hk => ?_), h.sep.grow (N := wr.heap.size) (List.Sublist.nodup (List.sublist_append_left _ _) (List.nodup_cons.1 hnd).2) (by simp) (ownB_nd h.off) hin (fun k hk => Or.inl hk) (fun k hk hk2 hk3 => by have := h.off.lt k hk3; omega) hlt h.ctx.le, fr_atX hf (fun hk => ?_) h.end_, fun hk => ?_, fun hk => ?_⟩
  · rcases (hm c).1 hk with h1 | h1 | h1
    · exact p2 h1.symm
    · exact p4 h1
    · exact x2' (memG.2 (by simp [← h1]))
  · rcases (hm k).1 hk2 with h1 | h1 | h1
    · exact p3 (h1 ▸ hk)
    · exact p6 k h1 hk
    · exact x2' (memG.2 (by simp [← h1, hk]))
  · rcases (hm k).1 hk with rfl | h1 | rfl
    · exact Or.inl (by simp)
    · rcases h.inn k h1 with h2 | h2
      · exact Or.inl (by simp [h2])
      · exact Or.inr h2
    · exact Or.inr x1
  · rcases hin k hk with h1 | h1
    · exact h.inn k h1
    · exact Or.inr (by omega)
  · rcases (hm y).1 hk with h1 | h1 | h1
    · exact (p7 y rfl).1 h1
    · exact (p7 y rfl).2.2.1 h1
    · exact x2' (memG.2 (by simp [← h1]))
  · rcases (hm X).1 hk with h1 | h1 | h1
    · exact X2 (memG.2 (by simp [h1]))
    · exact X2 (memG.2 (by simp [h1]))
    · exact X3 h1
  · rcases memG.1 hk with h1 | h1 | h1
    · exact x2' (memG.2 (Or.inl h1))
    · rcases hin xb h1 with h2 | h2
      · exact x2' (memG.2 (by simp [h2]))
      · omega
    · exact x2' (memG.2 (Or.inr (Or.inr h1)))
  · rcases memG.1 hk with h1 | h1 | h1
    · exact X2 (memG.2 (Or.inl h1))
    · rcases hin X h1 with h2 | h2
      · exact X2 (memG.2 (by simp [h2]))
      · omega
    · exact X2 (memG.2 (Or.inr (Or.inr h1)))
theorem sep_ndS {Fv : List Nat} (h : Sep M B Ft1 c Fv Fo (some y)) : (M.R :: (Ft1 ++ [y])).Nodup := by
  have := sep_nd2 h
  simpa using this
/-- All is done but the result's own block. -/
theorem RetClS.fin {V w2 : World} {how v v0 xr n : Int} (hm : MwS M C V vt1 Ft1 how st1) (hby : ByS V y by1) (hx : I64 xr) (hn : I64 n) (hv : (how = 1 → xr = v0) ∧ (how = 2 → n = v)) (hfr : Fr (M.R :: (Ft ++ [y])) w V) (hin : ∀ k, k ∈ Ft1 → k ∈ Ft ∨ w.heap.size ≤ k) (hnd : (M.R :: (Ft1 ++ [y])).Nodup) (hX : w.heap.size ≤ X) (hXn : X ∉ M.R :: (Ft1 ++ [y])) (hf : Fr [X] V w2) :
    RetClS M C y w Ft (v0, (how, v), by1, st1) (.returned (.tuple #[.int .i64 xr, .agg #[.int .i64 how, .int .i64 n]])) w2 := by
  have hk : ∀ k, k ∈ M.R :: (Ft1 ++ [y]) → k ∉ [X] := fun k hk h2 => hXn (by rw [← List.mem_singleton.1 h2]; exact hk)
  obtain ⟨f, hm1, hm2⟩ := hm
  exact ⟨xr, n, vt1, Ft1, rfl, hx, hn, Lib.hid hv, Lib.hid ⟨f, hm1.fr hf (hk _ (by simp)) (fun k h => hk k (by simp [h])), hm2⟩, Lib.hid (hby.fr hf (hk _ (by simp))), Lib.hid (FrR.trans hfr hf (fun k h => Or.inr (by rw [List.mem_singleton.1 h]; exact hX))), Lib.hid hin, Lib.hid hnd⟩
end
end Go.Proofs.Ytgoinmdnpaknpaa
