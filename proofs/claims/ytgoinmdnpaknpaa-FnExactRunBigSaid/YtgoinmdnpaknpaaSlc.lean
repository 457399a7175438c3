/- copy, clear and append where there is room, on a row of elements of any size. Plain lemmas. -/
import Derived.Test.YtgoinmdnpaknpaaKit1
import Derived.Laws.CopyOwn
import Derived.Laws.AppendOwn
import Derived.Lib.SliceRun
import Derived.Deep.RegionLaw
set_option linter.unusedVariables false
set_option linter.unusedSimpArgs false
namespace Go.Proofs.Ytgoinmdnpaknpaa
open Go.RowKit
theorem sl_nil_addr {α : Type} {R : Rp α} {w : World} {lo hi n c : Nat} {l : List α} (h : Sl R w lo hi none n c l) : l = [] := by
  rcases Nat.eq_zero_or_pos n with h0 | h0
  · exact List.eq_nil_of_length_eq_zero (by rw [h.lenEq, h0])
  · obtain ⟨_, _, _, h1, _⟩ := h.at_ h0; cases h1
section
variable {P : Program}
theorem run_copyS (w : World) (dT sT ty elem : TypeId) (s g o dLen dCap : Nat) (a : Addr) (sLen sCap : Nat) (cur : List Value) (t : TypeId) (cs : List Value)
    (hu : P.underlying dT = some (.slice elem)) (hs : (P.info? elem).map (·.size) = some s)
    (hg : w.heap[g]? = some (.cells cur.toArray t (0, 0))) (hn : cs.length = Nat.min sLen dLen * s)
    (hsrc : ∀ j v, cs[j]? = some v → w.cell? (a.add j) = some v) (hfit : o + cs.length ≤ cur.length) (h1 : ∀ v ∈ cs, v.oneCell' = true) :
    (Builtin.copy_ #[dT, sT] ty #[.slice (some ⟨g, o, none⟩) dLen dCap, .slice (some a) sLen sCap]).run P w =
      .ok (goInt (Nat.min sLen dLen)) (w.setRow g (splice cur o cs).toArray) := by
  have hl := run_loadCells_list (P := P) w a cs hsrc
  have hst := run_storeCells_at P g o t cs 0 cur.toArray w hg (by simpa using hfit) h1
  cases hq : P.info? elem with
  | none => simp [hq] at hs
  | some i =>
    have hi : i.size = s := by simpa [hq] using hs
    rw [hn] at hl
    simp [Builtin.copy_, run_underlying hu, Builtin.lenOf, Builtin.firstCells, sizeOf, typeInfo, hq, hi, hl, hst, splice]
theorem wp_copyS {o : Oper} {a : Act} {w : World} {K : Act → World → Prop} {Q : Exit → Act → World → Prop} (d x : Operand) (dT sT : TypeId)
    (ho : o.op = .call { callee := .builtin .copy, args := #[d, x], argTypes := #[dT, sT] }) (elem : TypeId) (s : Nat) (hu : P.underlying dT = some (.slice elem)) (hs : (P.info? elem).map (·.size) = some s)
    (g off dLen dCap : Nat) (ad : Addr) (sLen sCap : Nat) (hd : a.eval d = .slice (some ⟨g, off, none⟩) dLen dCap) (hx : a.eval x = .slice (some ad) sLen sCap)
    (cur : List Value) (t : TypeId) (hg : w.heap[g]? = some (.cells cur.toArray t (0, 0))) (cs : List Value) (hn : cs.length = Nat.min sLen dLen * s)
    (hsrc : ∀ j v, cs[j]? = some v → w.cell? (ad.add j) = some v) (hfit : off + cs.length ≤ cur.length) (h1 : ∀ v ∈ cs, v.oneCell' = true)
    (h : K (a.put o.dst (goInt (Nat.min sLen dLen))) (w.setRow g (splice cur off cs).toArray)) : o.wp P a w K Q := by
  have hrun := run_copyS (P := P) w dT sT o.type elem s g off dLen dCap ad sLen sCap cur t cs hu hs hg hn hsrc hfit h1
  unfold Oper.wp
  simp only [execOp, ho, resolve, invoke, builtin, Sem.run_bind, Sem.run_pure, Result.andThen_ok, List.map_toArray, List.map_cons, List.map_nil, hd, hx, hrun]
  exact h
theorem wpList_copyS {ops : Array Oper} {rest : List Oper} {o : Oper} {a : Act} {w : World} {Q : Exit → Act → World → Prop} (hgd : o.guard = none) (d x : Operand) (dT sT : TypeId)
    (ho : o.op = .call { callee := .builtin .copy, args := #[d, x], argTypes := #[dT, sT] }) (elem : TypeId) (s : Nat) (hu : P.underlying dT = some (.slice elem)) (hs : (P.info? elem).map (·.size) = some s)
    (g off dLen dCap : Nat) (ad : Addr) (sLen sCap : Nat) (hd : a.eval d = .slice (some ⟨g, off, none⟩) dLen dCap) (hx : a.eval x = .slice (some ad) sLen sCap)
    (cur : List Value) (t : TypeId) (hg : w.heap[g]? = some (.cells cur.toArray t (0, 0))) (cs : List Value) (hn : cs.length = Nat.min sLen dLen * s)
    (hsrc : ∀ j v, cs[j]? = some v → w.cell? (ad.add j) = some v) (hfit : off + cs.length ≤ cur.length) (h1 : ∀ v ∈ cs, v.oneCell' = true)
    (h : ∀ w', Hid (w' = w.setRow g (splice cur off cs).toArray) → wpList P ops Q rest (a.put o.dst (goInt (Nat.min sLen dLen))) w') : wpList P ops Q (o :: rest) a w :=
  wpList_plain hgd fun _ hK => wp_copyS d x dT sT ho elem s hu hs g off dLen dCap ad sLen sCap hd hx cur t hg cs hn hsrc hfit h1 (hK _ _ (h _ (Lib.hid rfl)))
theorem step_copyS {ops : Array Oper} {o : Oper} {a : Act} {w : World} {K : Act → World → Prop} {Q : Exit → Act → World → Prop} {E : Prop} (hgd : o.guard = none) (d x : Operand) (dT sT : TypeId)
    (ho : o.op = .call { callee := .builtin .copy, args := #[d, x], argTypes := #[dT, sT] }) (elem : TypeId) (s : Nat) (hu : P.underlying dT = some (.slice elem)) (hs : (P.info? elem).map (·.size) = some s)
    (g off dLen dCap : Nat) (ad : Addr) (sLen sCap : Nat) (hd : a.eval d = .slice (some ⟨g, off, none⟩) dLen dCap) (hx : a.eval x = .slice (some ad) sLen sCap)
    (cur : List Value) (t : TypeId) (hg : w.heap[g]? = some (.cells cur.toArray t (0, 0))) (cs : List Value) (hn : cs.length = Nat.min sLen dLen * s)
    (hsrc : ∀ j v, cs[j]? = some v → w.cell? (ad.add j) = some v) (hfit : off + cs.length ≤ cur.length) (h1 : ∀ v ∈ cs, v.oneCell' = true)
    (h : ∀ w', Hid (w' = w.setRow g (splice cur off cs).toArray) → K (a.put o.dst (goInt (Nat.min sLen dLen))) w') :
    if Region.wanted o (yielded ops a.tmps) = true then Oper.wp P o a w K Q else E := by
  have hw : Region.wanted o (yielded ops a.tmps) = true := by simp [Region.wanted, hgd]
  rw [if_pos hw]
  exact wp_copyS d x dT sT ho elem s hu hs g off dLen dCap ad sLen sCap hd hx cur t hg cs hn hsrc hfit h1 (h _ (Lib.hid rfl))
/-- What clear puts. -/
def zerosL (z : List Value) (n : Nat) : List Value := (Builtin.zeroCells z.toArray n).toList
theorem run_clearS (w : World) (t e ty : TypeId) (z : Value) (zc : List Value) (ht : P.underlying t = some (.slice e)) (hv : ∀ w, (zeroValue e).run P w = .ok z w) (hz : z.cells = zc.toArray) (g o n c : Nat) (hn : 0 < n) (cur : List Value)
    (hg : w.heap[g]? = some (.cells cur.toArray e (0, 0))) (hfit : o + (zerosL zc n).length ≤ cur.length) (h1 : ∀ v ∈ zerosL zc n, v.oneCell' = true) :
    (Builtin.clear_ #[t] ty #[.slice (some ⟨g, o, none⟩) n c]).run P w = .ok (.tuple #[]) (w.setRow g (splice cur o (zerosL zc n)).toArray) := by
  have hst := run_storeCells_at P g o e (zerosL zc n) 0 cur.toArray w hg (by simpa using hfit) h1
  simp only [Nat.add_zero] at hst
  obtain ⟨m, rfl⟩ : ∃ m, n = m + 1 := ⟨n - 1, by omega⟩
  unfold zerosL at hst
  simp [Builtin.clear_, run_underlying ht, hv, hz, zerosL, hst, splice]
theorem wpList_clearS {ops : Array Oper} {rest : List Oper} {o : Oper} {a : Act} {w : World} {Q : Exit → Act → World → Prop} (hgd : o.guard = none) (x : Operand) (t : TypeId)
    (ho : o.op = .call { callee := .builtin .clear, args := #[x], argTypes := #[t] }) (e : TypeId) (z : Value) (zc : List Value) (ht : P.underlying t = some (.slice e)) (hv : ∀ w, (zeroValue e).run P w = .ok z w) (hz : z.cells = zc.toArray)
    (g off n c : Nat) (hn : 0 < n) (hx : a.eval x = .slice (some ⟨g, off, none⟩) n c) (cur : List Value) (hg : w.heap[g]? = some (.cells cur.toArray e (0, 0))) (hfit : off + (zerosL zc n).length ≤ cur.length) (h1 : ∀ v ∈ zerosL zc n, v.oneCell' = true)
    (h : ∀ w', Hid (w' = w.setRow g (splice cur off (zerosL zc n)).toArray) → wpList P ops Q rest (a.put o.dst (.tuple #[])) w') : wpList P ops Q (o :: rest) a w := by
  refine wpList_plain hgd fun K hK => ?_
  have hrun := run_clearS (P := P) w t e o.type z zc ht hv hz g off n c hn cur hg hfit h1
  unfold Oper.wp
  simp only [execOp, ho, resolve, invoke, builtin, Sem.run_bind, Sem.run_pure, Result.andThen_ok, List.map_toArray, List.map_cons, List.map_nil, hx, hrun]
  exact hK _ _ (h _ (Lib.hid rfl))
theorem wpList_roomS {ops : Array Oper} {rest : List Oper} {o : Oper} {a : Act} {w : World} {Q : Exit → Act → World → Prop} (hgd : o.guard = none) (s x : Operand) (t : TypeId)
    (ho : o.op = .call { callee := .builtin .append, args := #[s, x], argTypes := #[t, t] }) (e : TypeId) (i : TypeInfo) (size : Nat) (ht : P.underlying t = some (.slice e)) (hi : P.info? e = some i) (hsize : i.size = size)
    (g sLen sCap : Nat) (cur : List Value) (hs : a.eval s = .slice (some ⟨g, 0, none⟩) sLen sCap) (hg : w.heap[g]? = some (.cells cur.toArray e (0, 0))) (ad : Addr) (m c : Nat) (news : List Value) (hx : a.eval x = .slice (some ad) m c)
    (hl : news.length = m * size) (hnews : ∀ j u, news[j]? = some u → w.cell? (ad.add j) = some u) (h1 : ∀ u ∈ news, u.oneCell' = true) (hroom : sLen + m ≤ sCap) (hfit : sLen * size + news.length ≤ cur.length)
    (h : ∀ w', Hid (w' = w.setRow g (splice cur (sLen * size) news).toArray) → wpList P ops Q rest (a.put o.dst (.slice (some ⟨g, 0, none⟩) (sLen + m) sCap)) w') : wpList P ops Q (o :: rest) a w := by
  refine wpList_plain hgd fun K hK => ?_
  subst hsize
  have hrun := run_append_room (P := P) w t o.type e i ht hi g sLen sCap cur.toArray hg ad m c news hl hnews h1 hroom (by simpa using hfit)
  have e1 : (cur.toArray.toList.take (sLen * i.size) ++ news ++ cur.toArray.toList.drop (sLen * i.size + news.length)) = splice cur (sLen * i.size) news := by simp [splice]
  rw [e1] at hrun
  unfold Oper.wp execOp
  simp only [ho, resolve, invoke, builtin, Sem.run_bind, Sem.run_pure, Result.andThen_ok, List.map_toArray, List.map_cons, List.map_nil, hs, hx, hrun]
  exact hK _ _ (h _ (Lib.hid rfl))
end
/-- A row put anew: what it holds, and what else has turned. -/
theorem setRow_at {w w' : World} {g : Nat} {cur cur' : List Value} {e : TypeId} (hg : w.heap[g]? = some (.cells cur.toArray e (0, 0))) (h : w' = w.setRow g cur'.toArray) : w'.heap[g]? = some (.cells cur'.toArray e (0, 0)) ∧ Fr [g] w w' := by
  subst h
  exact ⟨setRow_heap w g _ _ e _ hg, ⟨rfl, rfl, rfl, by simp [World.setRow], fun k _ hk => setRow_other w g k _ (by simpa using hk)⟩⟩
theorem row_cells {w : World} {g : Nat} {cur : List Value} {e : TypeId} (hg : w.heap[g]? = some (.cells cur.toArray e (0, 0))) (o : Nat) : ∀ j v, (cur.drop o)[j]? = some v → w.cell? ((⟨g, o, none⟩ : Addr).add j) = some v := by
  intro j v hj
  have hadd : (⟨g, o, none⟩ : Addr).add j = ⟨g, o + j, none⟩ := by unfold Addr.add; split <;> simp_all
  rw [hadd, cell_of_row w g _ _ e (0, 0) hg]
  simpa [List.getElem?_drop] using hj
theorem splice_take {α : Type} (L cs : List α) (off m : Nat) (h : m ≤ off) (h2 : off ≤ L.length) : (splice L off cs).take m = L.take m := by
  unfold splice
  rw [List.take_append, List.length_take, Nat.min_eq_left h2, show m - off = 0 by omega, List.take_zero, List.append_nil, List.take_take, Nat.min_eq_left h]
theorem Sl.cut {α : Type} {R : Rp α} {w : World} {lo hi : Nat} {A : Option Addr} {n c : Nat} {l : List α} (h : Sl R w lo hi A n c l) (k : Nat) (hk : k ≤ n) : Sl R w lo hi A k c (l.take k) := by
  obtain ⟨h1, h2, h3, h4⟩ := h
  refine ⟨by rw [List.length_take]; omega, by omega, h3, fun hp => ?_⟩
  obtain ⟨b, off, rfl, hb1, hb2, hr⟩ := h4 (by omega)
  refine ⟨b, off, rfl, hb1, hb2, fun i hi' => ?_⟩
  have hil : i < l.length := by rw [List.length_take] at hi'; omega
  obtain ⟨cs, hr1, hr2⟩ := hr i hil
  exact ⟨cs, by rw [List.getElem_take]; exact hr1, hr2⟩
theorem Sl.from_ {α : Type} {R : Rp α} {w : World} {lo hi b off n c : Nat} {l : List α} (h : Sl R w lo hi (some ⟨b, off, none⟩) n c l) (k : Nat) (hk : k ≤ n) {A : Option Addr} (hA : k < n → A = some ⟨b, off + k * R.size, none⟩) : Sl R w lo hi A (n - k) (c - k) (l.drop k) := by
  obtain ⟨h1, h2, h3, h4⟩ := h
  refine ⟨by rw [List.length_drop]; omega, by omega, by omega, fun hp => ?_⟩
  obtain ⟨b', off', e, hb1, hb2, hr⟩ := h4 (by omega)
  injection e with e
  injection e with e1 e2
  subst e1 e2
  refine ⟨b, _, hA (by omega), hb1, hb2, fun i hi' => ?_⟩
  have hil : k + i < l.length := by rw [List.length_drop] at hi'; omega
  obtain ⟨cs, hr1, hr2⟩ := hr (k + i) hil
  refine ⟨cs, by rw [List.getElem_drop]; exact hr1, fun j hj => ?_⟩
  rw [Nat.add_assoc off, ← Nat.add_mul]
  exact hr2 j hj
end Go.Proofs.Ytgoinmdnpaknpaa
