/- Marks on what a datum owns: one element of an owned slice taken out and put back; the marked list. Plain lemmas, and the walks over ints and bools. -/
import Derived.Test.YtkedpaopnnhinaaInts
set_option linter.unusedVariables false
set_option linter.unusedSimpArgs false
set_option maxRecDepth 100000
namespace Go.Proofs.Ytkedpaopnnhinaa
open Go.RowKit

def cntL {α : Type} (cnt : α → Nat) (l : List α) : Nat := (l.map cnt).sum
def mkL {α : Type} (mkf : Int → α → α) (cnt : α → Nat) : Int → List α → List α
  | _, [] => []
  | k, x :: xs => mkf k x :: mkL mkf cnt (k + (cnt x : Int)) xs
section
variable {α : Type} {mkf : Int → α → α} {cnt : α → Nat}
theorem mkL_len : ∀ (l : List α) (k : Int), (mkL mkf cnt k l).length = l.length
  | [], _ => rfl
  | x :: xs, k => by simp [mkL, mkL_len xs]
theorem mkL_snoc : ∀ (l : List α) (x : α) (k : Int), mkL mkf cnt k (l ++ [x]) = mkL mkf cnt k l ++ [mkf (k + (cntL cnt l : Int)) x]
  | [], x, k => by simp [mkL, cntL]
  | y :: ys, x, k => by
    have := mkL_snoc ys x (k + (cnt y : Int))
    simp only [List.cons_append, mkL, this]
    simp [cntL, Int.add_assoc]
theorem cntL_succ {l : List α} {k : Nat} (hk : k < l.length) : cntL cnt (l.take (k + 1)) = cntL cnt (l.take k) + cnt l[k] := sum_take_succ hk
theorem cntL_take_le (l : List α) (k : Nat) : cntL cnt (l.take k) ≤ cntL cnt l := by
  have : cntL cnt l = cntL cnt (l.take k) + cntL cnt (l.drop k) := by
    unfold cntL; rw [← List.sum_append, ← List.map_append, List.take_append_drop]
  omega
/-- One place more is marked. -/
theorem mkL_step {l : List α} {j : Nat} {k : Int} (hj : j < l.length) : (mkL mkf cnt k (l.take j) ++ l.drop j).set j (mkf (k + (cntL cnt (l.take j) : Int)) l[j]) = mkL mkf cnt k (l.take (j + 1)) ++ l.drop (j + 1) := by
  rw [List.take_succ_eq_append_getElem hj, mkL_snoc, List.drop_eq_getElem_cons hj, List.set_append_right _ _ (by rw [mkL_len, List.length_take]; omega), mkL_len, List.length_take, Nat.min_eq_left (by omega), Nat.sub_self, List.set_cons_zero]
  simp
theorem mkL_at {l : List α} {j : Nat} {k : Int} (hj : j < l.length) (h : j < (mkL mkf cnt k (l.take j) ++ l.drop j).length) : (mkL mkf cnt k (l.take j) ++ l.drop j)[j] = l[j] := by
  rw [List.getElem_append_right (by rw [mkL_len, List.length_take]; omega)]
  simp [mkL_len, List.length_take, Nat.min_eq_left (Nat.le_of_lt hj)]
end

theorem All3.put {α β γ : Type} {P Q : α → β → γ → Prop} : ∀ {xs : List α} {ys : List β} {zs : List γ} (_ : All3 P xs ys zs) (j : Nat) (hj : j < xs.length) (b : β) (c : γ), Q xs[j] b c →
    (∀ a b c, a ∈ xs.take j ++ xs.drop (j + 1) → P a b c → Q a b c) → All3 Q xs (ys.set j b) (zs.set j c)
  | x :: xs, y :: ys, z :: zs, h, 0, _, b, c, hq, ho => ⟨hq, h.2.mono fun u v t hu hp => ho u v t (by simpa using hu) hp⟩
  | x :: xs, y :: ys, z :: zs, h, j + 1, hj, b, c, hq, ho =>
    ⟨ho x y z (by simp) h.1, All3.put (xs := xs) (ys := ys) (zs := zs) h.2 j (by simpa using hj) b c hq fun u v t hu hp => ho u v t (by
      rcases List.mem_append.1 hu with hu | hu
      · exact List.mem_append_left _ (by simp [hu])
      · exact List.mem_append_right _ (by simpa using hu)) hp⟩
  | [], [], [], _, _, hj, _, _, _, _ => absurd hj (by simp)
  | [], [], _ :: _, h, _, _, _, _, _, _ => h.elim
  | [], _ :: _, [], h, _, _, _, _, _, _ => h.elim
  | [], _ :: _, _ :: _, h, _, _, _, _, _, _ => h.elim
  | _ :: _, [], [], h, _, _, _, _, _, _ => h.elim
  | _ :: _, [], _ :: _, h, _, _, _, _, _, _ => h.elim
  | _ :: _, _ :: _, [], h, _, _, _, _, _, _ => h.elim

theorem flatten_set {β : Type} {L : List (List β)} {j : Nat} (hj : j < L.length) (x : List β) : (L.set j x).flatten = (L.take j).flatten ++ x ++ (L.drop (j + 1)).flatten := by
  rw [List.set_eq_take_append_cons_drop, if_pos hj]
  simp
theorem flatten_at {β : Type} {L : List (List β)} {j : Nat} (hj : j < L.length) : L.flatten = (L.take j).flatten ++ L[j] ++ (L.drop (j + 1)).flatten := by
  have := flatten_set hj L[j]
  rwa [List.set_getElem_self] at this
theorem flatten_apart {L : List (List Nat)} (hn : L.flatten.Nodup) {j : Nat} (hj : j < L.length) {a : List Nat} (ha : a ∈ L.take j ++ L.drop (j + 1)) {k : Nat} (hk : k ∈ a) : k ∉ L[j] := by
  rw [flatten_at hj, List.append_assoc, List.nodup_append] at hn
  obtain ⟨_, h2, h3⟩ := hn
  rw [List.nodup_append] at h2
  intro hx
  rcases List.mem_append.1 ha with ha | ha
  · exact h3 k (List.mem_flatten.2 ⟨a, ha, hk⟩) k (List.mem_append_left _ hx) rfl
  · exact h2.2.2 k hx k (List.mem_flatten.2 ⟨a, ha, hk⟩) rfl

theorem OwnSl.focus {α : Type} {R : Rp α} {w : World} {e : TypeId} {F : List Nat} {A : Option Addr} {n c : Nat} {l : List α} (h : OwnSl R w e F (.slice A n c) l) (hp : 0 < R.size) {j : Nat} (hj : j < l.length) :
    ∃ g pre cs post Fj, A = some ⟨g, 0, none⟩ ∧ n = l.length ∧ pre.length = j * R.size ∧ R.own w Fj cs l[j] ∧ w.ownsRow 0 e R.size (.slice (some ⟨g, 0, none⟩) n c) n (pre ++ cs ++ post) ∧ g ∈ F ∧ g ∉ Fj ∧ (∀ k, k ∈ Fj → k ∈ F) ∧
      ∀ w' cs' x', R.own w' Fj cs' x' → w'.ownsRow 0 e R.size (.slice (some ⟨g, 0, none⟩) n c) n (pre ++ cs' ++ post) → (∀ k, k ∈ F → k ≠ g → k ∉ Fj → w'.heap[k]? = w.heap[k]?) → OwnSl R w' e F (.slice A n c) (l.set j x') := by
  obtain ⟨csl, Fs, h1, h2, rfl, hn⟩ := h
  have hl := h2.len
  obtain ⟨hnl, ⟨_, h0, _⟩ | ⟨g, rfl, _, _⟩⟩ := ownsRow_cases h1
  · omega
  subst hnl
  have hF : ((Value.slice (some ⟨g, 0, none⟩) l.length c).ownBlock.toList ++ Fs.flatten) = g :: Fs.flatten := rfl
  rw [hF] at hn ⊢
  have hg := (List.nodup_cons.1 hn).1
  have hjF : j < Fs.length := by omega
  have hjc : j < csl.length := by omega
  have hmem : ∀ k, k ∈ Fs[j] → k ∈ Fs.flatten := fun k hk => List.mem_flatten.2 ⟨_, List.getElem_mem hjF, hk⟩
  refine ⟨g, (csl.take j).flatten, csl[j], (csl.drop (j + 1)).flatten, Fs[j], rfl, rfl, ?_, h2.get j hjF hjc hj, ?_, List.mem_cons_self .., fun hx => hg (hmem g hx), fun k hk => List.mem_cons_of_mem _ (hmem k hk), ?_⟩
  · rw [flatten_len (s := R.size) (fun x hx => all3_len h2 x (List.mem_of_mem_take hx)), List.length_take, Nat.min_eq_left (by omega)]
  · rw [← flatten_at hjc]; exact h1
  · intro w' cs' x' ho hr hk
    refine ⟨csl.set j cs', Fs, ?_, All3.put h2 j hjF cs' x' ho ?_, rfl, hn⟩
    · rw [flatten_set hjc, List.length_set]; exact hr
    · intro a b d ha hown
      refine R.ownKeep (fun k hka => hk k (List.mem_cons_of_mem _ ?_) ?_ (flatten_apart (List.nodup_cons.1 hn).2 hjF ha hka)) hown
      · rcases List.mem_append.1 ha with ha | ha
        · exact List.mem_flatten.2 ⟨a, List.mem_of_mem_take ha, hka⟩
        · exact List.mem_flatten.2 ⟨a, List.mem_of_mem_drop ha, hka⟩
      · rintro rfl
        rcases List.mem_append.1 ha with ha | ha
        · exact hg (List.mem_flatten.2 ⟨a, List.mem_of_mem_take ha, hka⟩)
        · exact hg (List.mem_flatten.2 ⟨a, List.mem_of_mem_drop ha, hka⟩)

section
variable {w w' : World} {e : TypeId} {size n c g o i : Nat} {pre cs post : List Value}
theorem rowSet (h : w.ownsRow 0 e size (.slice (some ⟨g, 0, none⟩) n c) n (pre ++ cs ++ post)) (ho : pre.length = o) (hi : i < cs.length) (v : Value) : (w.setCell ⟨g, o + i, none⟩ v).ownsRow 0 e size (.slice (some ⟨g, 0, none⟩) n c) n (pre ++ cs.set i v ++ post) := by
  have := (h.stored (o + i) v).1
  subst ho
  rwa [List.append_assoc, List.set_append_right _ _ (by omega), Nat.add_sub_cancel_left, List.set_append_left _ _ hi, ← List.append_assoc] at this
theorem rowCell (h : w.ownsRow 0 e size (.slice (some ⟨g, 0, none⟩) n c) n (pre ++ cs ++ post)) (ho : pre.length = o) (hi : i < cs.length) : w.cell? ⟨g, o + i, none⟩ = some cs[i] := by
  subst ho
  have hl := h.1
  simp only [List.length_append] at hl
  rw [h.cellAt _ (by omega), List.append_assoc, List.getElem?_append_right (by omega), Nat.add_sub_cancel_left, List.getElem?_append_left hi]
  simp [hi]
end
theorem row_fr {w w' : World} {e : TypeId} {size n c g : Nat} {xs : List Value} {G : List Nat} (h : w.ownsRow 0 e size (.slice (some ⟨g, 0, none⟩) n c) n xs) (hf : Fr G w w') (hg : g ∉ G) : w'.ownsRow 0 e size (.slice (some ⟨g, 0, none⟩) n c) n xs :=
  ownsRow_keep0 h fun k hk => by
    have hlt := h.lt k hk
    simp [Value.ownBlock] at hk
    subst hk
    exact hf.block _ hlt.2 hg
theorem fr_then {G : List Nat} {a b c : World} (h : Fr G b c) (k : Fr G a b) : Fr G a c := k.trans h
theorem OwnSl.fr2 {α : Type} {R : Rp α} {w W w2 : World} {e : TypeId} {F G G2 : List Nat} {v : Value} {l : List α} (h : OwnSl R w e F v l) (hf : Fr G2 W w2) (h0 : Fr G w W) (d : ∀ k, k ∈ F → k ∉ G) (d2 : ∀ k, k ∈ F → k ∉ G2) : OwnSl R w2 e F v l := (h.fr h0 d).fr hf d2
/-- Marked: the numbers from k on lie in what the slice owns; no other block has turned. -/
def RetMk {α : Type} (R : Rp α) (E : TypeId) (mkf : Int → α → α) (cnt : α → Nat) (l : List α) (k : Int) (F : List Nat) (v : Value) (w : World) (e : Ending) (w' : World) : Prop :=
  ∃ r, e = .returned (.int .i64 r) ∧ r = k + (cntL cnt l : Int) ∧ OwnSl R w' E F v (mkL mkf cnt k l) ∧ Fr F w w'
def mkInt (k : Int) (_ : Int) : Int := k
def cntInt (_ : Int) : Nat := 1
theorem cntL_int (l : List Int) : cntL cntInt l = l.length := by
  induction l with
  | nil => rfl
  | cons x l ih => unfold cntL at ih ⊢; simp [cntInt, ih]; omega
theorem mk_mkL : ∀ (l : List Int) (k : Int), mk k l.length = (mkL mkInt cntInt k l).map (Value.int .i64)
  | [], k => rfl
  | x :: xs, k => by
    have := mk_mkL xs (k + 1)
    simp only [mkL, List.map_cons, mkInt, cntInt]
    rw [show ((1 : Nat) : Int) = 1 from rfl, ← this]
    unfold mk
    rw [List.length_cons, List.range_succ_eq_map, List.map_cons, List.map_map]
    simp [Function.comp_def]
    intro a _; omega
theorem mkInt64 : ∀ (l : List Int) (k : Int), 0 ≤ k → k + (l.length : Int) ≤ 4611686018427387904 → ∀ x, x ∈ mkL mkInt cntInt k l → I64 x
  | [], _, _, _, x, h => by simp [mkL] at h
  | y :: ys, k, h0, h1, x, h => by
    simp only [mkL, mkInt, cntInt, List.mem_cons] at h
    simp only [List.length_cons] at h1
    rcases h with rfl | h
    · exact ⟨by omega, by omega⟩
    · exact mkInt64 ys (k + 1) (by omega) (by omega) x h
theorem own_ints_F {w : World} {e : TypeId} {F : List Nat} {v : Value} {l : List Int} (h : OwnSl intR w e F v l) : F = v.ownBlock.toList := by
  obtain ⟨csl, Fs, _, h2, rfl, _⟩ := h
  have : Fs.flatten = [] := by
    rw [List.flatten_eq_nil_iff]
    intro a ha
    obtain ⟨i, hi, rfl⟩ := List.getElem_of_mem ha
    have hl := h2.len
    exact (h2.get i hi (by omega) (by omega)).1
  rw [this, List.append_nil]
theorem mkInts (w : World) (n c : Nat) (A : Option Addr) (F : List Nat) (l : List Int) (k : Int) (h : OwnSl intR w 3 F (.slice A n c) l) (h1 : 0 ≤ k) (h2 : k + (cntL cntInt l : Int) ≤ 1152921504606846976) :
    Calls Try.prog 74 #[.slice A n c, .int .i64 k] w (RetMk intR 3 mkInt cntInt l k F (.slice A n c) w) := by
  obtain ⟨xs, hx, hg, hl⟩ := h.row'
  have hF := own_ints_F h
  rw [cntL_int] at h2
  refine (lawsMarkIntS w n c A xs k F hx hg h1 (by omega) (by omega)).mono ?_
  rintro e w' ⟨rfl, ho, hf⟩
  subst hl
  rw [Nat.mul_one, mk_mkL] at ho
  refine ⟨_, rfl, by rw [cntL_int, Nat.mul_one], ?_, hf⟩
  have ho' : w'.ownsRow 0 3 1 (.slice A l.length c) (mkL mkInt cntInt k l).length ((mkL mkInt cntInt k l).map (Value.int .i64)) := by rw [mkL_len]; exact ho
  have := own_ints ho' (mkInt64 l k h1 (by omega))
  rw [hF]; exact this
end Go.Proofs.Ytkedpaopnnhinaa
