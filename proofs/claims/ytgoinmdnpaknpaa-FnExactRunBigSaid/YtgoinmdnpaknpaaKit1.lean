/- Several texts in one: Base, LawKit, Ints, Bools, Util, Mk, MkBool, OwnRes, App, OwnApp, AnyBase, AnyInt, Oc, OcBool, Hd, HdBool, Rev, SameInts. -/
import Derived.Test.YtgoinmdnpaknpaaRows
import Derived.WalkKit
import Derived.WalkSpells
import Derived.Lib.Hide
import Derived.Deep.Draws
import Derived.Laws.IdiomCopy
import Derived.ProofKit
import Derived.Deep.Slices
import Derived.OpenShut
import Derived.Deep.QuietTactic
import Derived.BigQuiet
import Derived.Maps.AppendAt
import Derived.Deep.AppendLies
import Derived.RegionTactic
import Derived.OwnWalk

/- Words for memory: how data lie in cells; a slice that reads as a list; a slice that owns its list; what a call leaves as it was. Plain lemmas, no program. -/
set_option linter.unusedVariables false
set_option linter.unusedSimpArgs false
namespace Go.Proofs.Ytgoinmdnpaknpaa
open Go.RowKit

/-- Within the bounds of an int. -/
def I64 (n : Int) : Prop := -9223372036854775808 ≤ n ∧ n ≤ 9223372036854775807

/-! ### three lists, place by place -/
def All3 {α β γ : Type} (P : α → β → γ → Prop) : List α → List β → List γ → Prop
  | [], [], [] => True
  | a :: xs, b :: ys, c :: zs => P a b c ∧ All3 P xs ys zs
  | _, _, _ => False
theorem All3.len {α β γ : Type} {P : α → β → γ → Prop} : ∀ {xs : List α} {ys : List β} {zs : List γ}, All3 P xs ys zs → xs.length = zs.length ∧ ys.length = zs.length
  | [], [], [], _ => ⟨rfl, rfl⟩
  | _ :: xs, _ :: ys, _ :: zs, h => by have := All3.len (xs := xs) (ys := ys) (zs := zs) h.2; simp [this]
  | [], [], _ :: _, h => h.elim
  | [], _ :: _, [], h => h.elim
  | [], _ :: _, _ :: _, h => h.elim
  | _ :: _, [], [], h => h.elim
  | _ :: _, [], _ :: _, h => h.elim
  | _ :: _, _ :: _, [], h => h.elim
theorem All3.snoc {α β γ : Type} {P : α → β → γ → Prop} {a : α} {b : β} {c : γ} (hp : P a b c) : ∀ {xs : List α} {ys : List β} {zs : List γ}, All3 P xs ys zs → All3 P (xs ++ [a]) (ys ++ [b]) (zs ++ [c])
  | [], [], [], _ => ⟨hp, trivial⟩
  | _ :: xs, _ :: ys, _ :: zs, h => ⟨h.1, All3.snoc hp (xs := xs) (ys := ys) (zs := zs) h.2⟩
  | [], [], _ :: _, h => h.elim
  | [], _ :: _, [], h => h.elim
  | [], _ :: _, _ :: _, h => h.elim
  | _ :: _, [], [], h => h.elim
  | _ :: _, [], _ :: _, h => h.elim
  | _ :: _, _ :: _, [], h => h.elim
theorem All3.mono {α β γ : Type} {P Q : α → β → γ → Prop} : ∀ {xs : List α} {ys : List β} {zs : List γ}, (∀ a b c, a ∈ xs → P a b c → Q a b c) → All3 P xs ys zs → All3 Q xs ys zs
  | [], [], [], _, _ => trivial
  | a :: xs, _ :: ys, _ :: zs, hq, h => ⟨hq _ _ _ (List.mem_cons_self ..) h.1, All3.mono (xs := xs) (ys := ys) (zs := zs) (fun x y z hx => hq x y z (List.mem_cons_of_mem _ hx)) h.2⟩
  | [], [], _ :: _, _, h => h.elim
  | [], _ :: _, [], _, h => h.elim
  | [], _ :: _, _ :: _, _, h => h.elim
  | _ :: _, [], [], _, h => h.elim
  | _ :: _, [], _ :: _, _, h => h.elim
  | _ :: _, _ :: _, [], _, h => h.elim
theorem All3.get {α β γ : Type} {P : α → β → γ → Prop} : ∀ {xs : List α} {ys : List β} {zs : List γ} (_ : All3 P xs ys zs) (i : Nat) (ha : i < xs.length) (hb : i < ys.length) (hc : i < zs.length), P xs[i] ys[i] zs[i]
  | [], [], [], _, _, h, _, _ => absurd h (by simp)
  | _ :: _, _ :: _, _ :: _, h, 0, _, _, _ => h.1
  | _ :: xs, _ :: ys, _ :: zs, h, i + 1, ha, hb, hc => All3.get (xs := xs) (ys := ys) (zs := zs) h.2 i (by simpa using ha) (by simpa using hb) (by simpa using hc)
  | [], [], _ :: _, h, _, _, _, _ => h.elim
  | [], _ :: _, [], h, _, _, _, _ => h.elim
  | [], _ :: _, _ :: _, h, _, _, _, _ => h.elim
  | _ :: _, [], [], h, _, _, _, _ => h.elim
  | _ :: _, [], _ :: _, h, _, _, _, _ => h.elim
  | _ :: _, _ :: _, [], h, _, _, _, _ => h.elim

/-- How a datum lies in cells. rel: read alone (the cells may point to blocks from lo to below hi, shared or not). own: the datum owns just the blocks F. -/
structure Rp (α : Type) where
  size : Nat
  rel : World → Nat → Nat → List Value → α → Prop
  own : World → List Nat → List Value → α → Prop
  len : ∀ {w lo hi cs x}, rel w lo hi cs x → cs.length = size
  ownLen : ∀ {w F cs x}, own w F cs x → cs.length = size
  keep : ∀ {w w' : World} {lo hi lo' hi' cs x}, lo' ≤ lo → hi ≤ hi' → (∀ k, lo ≤ k → k < hi → w'.heap[k]? = w.heap[k]?) → rel w lo hi cs x → rel w' lo' hi' cs x
  ownKeep : ∀ {w w' : World} {F cs x}, (∀ k, k ∈ F → w'.heap[k]? = w.heap[k]?) → own w F cs x → own w' F cs x
  ownRel : ∀ {w F lo hi cs x}, own w F cs x → (∀ k, k ∈ F → lo ≤ k ∧ k < hi) → rel w lo hi cs x
  ownLt : ∀ {w F cs x}, own w F cs x → ∀ k, k ∈ F → k < w.heap.size
  ownNodup : ∀ {w F cs x}, own w F cs x → F.Nodup

/-- A datum without pointers. -/
def flatR {α : Type} (size : Nat) (enc : α → List Value) (wf : α → Prop) (h : ∀ x, (enc x).length = size) : Rp α where
  size := size
  rel := fun _ _ _ cs x => cs = enc x ∧ wf x
  own := fun _ F cs x => F = [] ∧ cs = enc x ∧ wf x
  len := fun ⟨e, _⟩ => by rw [e]; exact h _
  ownLen := fun ⟨_, e, _⟩ => by rw [e]; exact h _
  keep := fun _ _ _ h => h
  ownKeep := fun _ h => h
  ownRel := fun ⟨_, h⟩ _ => h
  ownLt := fun ⟨e, _⟩ k hk => by subst e; simp at hk
  ownNodup := fun ⟨e, _⟩ => by subst e; simp
def intR : Rp Int := flatR 1 (fun x => [.int .i64 x]) I64 (fun _ => rfl)
def boolR : Rp Bool := flatR 1 (fun x => [.bool x]) (fun _ => True) (fun _ => rfl)

/-- Two data, one behind the other: the fields of a struct. -/
def pairR {α β : Type} (R : Rp α) (S : Rp β) : Rp (α × β) where
  size := R.size + S.size
  rel := fun w lo hi cs x => ∃ a b, cs = a ++ b ∧ R.rel w lo hi a x.1 ∧ S.rel w lo hi b x.2
  own := fun w F cs x => ∃ a b Fa Fb, cs = a ++ b ∧ F = Fa ++ Fb ∧ R.own w Fa a x.1 ∧ S.own w Fb b x.2 ∧ (Fa ++ Fb).Nodup
  len := fun ⟨a, b, e, h1, h2⟩ => by rw [e, List.length_append, R.len h1, S.len h2]
  ownLen := fun ⟨a, b, _, _, e, _, h1, h2, _⟩ => by rw [e, List.length_append, R.ownLen h1, S.ownLen h2]
  keep := fun h1 h2 hk ⟨a, b, e, r, s⟩ => ⟨a, b, e, R.keep h1 h2 hk r, S.keep h1 h2 hk s⟩
  ownKeep := fun hk ⟨a, b, Fa, Fb, e, f, r, s, n⟩ => ⟨a, b, Fa, Fb, e, f, R.ownKeep (fun k h => hk k (f ▸ List.mem_append_left _ h)) r, S.ownKeep (fun k h => hk k (f ▸ List.mem_append_right _ h)) s, n⟩
  ownRel := fun ⟨a, b, Fa, Fb, e, f, r, s, n⟩ hF => ⟨a, b, e, R.ownRel r (fun k h => hF k (f ▸ List.mem_append_left _ h)), S.ownRel s (fun k h => hF k (f ▸ List.mem_append_right _ h))⟩
  ownLt := fun ⟨a, b, Fa, Fb, e, f, r, s, n⟩ k hk => by
    subst f
    rcases List.mem_append.1 hk with h | h
    · exact R.ownLt r k h
    · exact S.ownLt s k h
  ownNodup := fun ⟨a, b, Fa, Fb, e, f, r, s, n⟩ => f ▸ n

/-- A slice that reads as a list. -/
def Sl {α : Type} (R : Rp α) (w : World) (lo hi : Nat) (A : Option Addr) (n c : Nat) (l : List α) : Prop :=
  l.length = n ∧ n ≤ c ∧ c ≤ maxLen ∧ (0 < n → ∃ b off, A = some ⟨b, off, none⟩ ∧ lo ≤ b ∧ b < hi ∧
    ∀ (i : Nat) (hi' : i < l.length), ∃ cs, R.rel w lo hi cs l[i] ∧ ∀ (j : Nat) (hj : j < cs.length), w.cell? ⟨b, off + i * R.size + j, none⟩ = some cs[j])

theorem Sl.keep {α : Type} {R : Rp α} {w w' : World} {lo hi lo' hi' : Nat} {A : Option Addr} {n c : Nat} {l : List α} (h : Sl R w lo hi A n c l) (h1 : lo' ≤ lo) (h2 : hi ≤ hi')
    (hk : ∀ k, lo ≤ k → k < hi → w'.heap[k]? = w.heap[k]?) : Sl R w' lo' hi' A n c l := by
  obtain ⟨e1, e2, e3, h⟩ := h
  refine ⟨e1, e2, e3, fun hn => ?_⟩
  obtain ⟨b, off, rfl, hb1, hb2, h⟩ := h hn
  refine ⟨b, off, rfl, by omega, by omega, fun i hi' => ?_⟩
  obtain ⟨cs, hr, hc⟩ := h i hi'
  refine ⟨cs, R.keep h1 h2 hk hr, fun j hj => ?_⟩
  rw [World.cell?_of_block (w := w) (hk b hb1 hb2)]
  exact hc j hj

/-- A slice that owns its list: the outer array is a block of its own (from its head on), the elements own what they reach; no block twice. -/
def OwnSl {α : Type} (R : Rp α) (w : World) (e : TypeId) (F : List Nat) (v : Value) (l : List α) : Prop :=
  ∃ csl Fs, w.ownsRow 0 e R.size v l.length csl.flatten ∧ All3 (R.own w) Fs csl l ∧ F = v.ownBlock.toList ++ Fs.flatten ∧ F.Nodup

theorem flatten_get {β : Type} {s : Nat} : ∀ {csl : List (List β)}, (∀ c ∈ csl, c.length = s) → ∀ (i : Nat) (hi : i < csl.length) (j : Nat), j < s → csl.flatten[i * s + j]? = csl[i][j]?
  | [], _, _, hi, _, _ => absurd hi (by simp)
  | c :: csl, h, 0, _, j, hj => by
    have hc := h c (List.mem_cons_self ..)
    simp [List.getElem?_append, hc, hj]
  | c :: csl, h, i + 1, hi, j, hj => by
    have hc := h c (List.mem_cons_self ..)
    have := flatten_get (csl := csl) (fun x hx => h x (List.mem_cons_of_mem _ hx)) i (by simpa using hi) j hj
    rw [List.flatten_cons, List.getElem?_append_right (by rw [hc, Nat.add_mul]; omega), hc, show (i + 1) * s + j - s = i * s + j by rw [Nat.add_mul]; omega, this]
    simp
theorem all3_len {α : Type} {R : Rp α} {w : World} : ∀ {Fs : List (List Nat)} {csl : List (List Value)} {l : List α}, All3 (R.own w) Fs csl l → ∀ c ∈ csl, c.length = R.size
  | _ :: Fs, c :: csl, _ :: l, h => fun x hx => by
    rcases List.mem_cons.1 hx with rfl | hx
    · exact R.ownLen h.1
    · exact all3_len (Fs := Fs) (csl := csl) (l := l) h.2 x hx
  | [], [], [], _ => fun _ hx => absurd hx (by simp)
  | [], [], _ :: _, h => h.elim
  | [], _ :: _, [], h => h.elim
  | [], _ :: _, _ :: _, h => h.elim
  | _ :: _, [], [], h => h.elim
  | _ :: _, [], _ :: _, h => h.elim
  | _ :: _, _ :: _, [], h => h.elim

section
variable {α : Type} {R : Rp α} {w w' : World} {e : TypeId} {F : List Nat} {v : Value} {l : List α}
theorem ownsRow_keep0 {base size n : Nat} {xs : List Value} (h : w.ownsRow base e size v n xs) (hk : ∀ k, v.ownBlock = some k → w'.heap[k]? = w.heap[k]?) : w'.ownsRow base e size v n xs := by
  obtain ⟨h1, h2⟩ := h
  refine ⟨h1, ?_⟩
  rcases h2 with h2 | ⟨g, cap, cur, hv, hg, hh, r⟩
  · exact Or.inl h2
  · exact Or.inr ⟨g, cap, cur, hv, hg, by rw [hk g (by rw [hv]; rfl)]; exact hh, r⟩
theorem OwnSl.keep (h : OwnSl R w e F v l) (hk : ∀ k, k ∈ F → w'.heap[k]? = w.heap[k]?) : OwnSl R w' e F v l := by
  obtain ⟨csl, Fs, h1, h2, rfl, hn⟩ := h
  refine ⟨csl, Fs, ownsRow_keep0 h1 fun k hv => hk k (by rw [hv]; simp), ?_, rfl, hn⟩
  exact h2.mono fun a b c ha h => R.ownKeep (fun k hka => hk k (List.mem_append_right _ (List.mem_flatten.2 ⟨a, ha, hka⟩))) h
theorem OwnSl.lt (h : OwnSl R w e F v l) : ∀ k, k ∈ F → k < w.heap.size := by
  obtain ⟨csl, Fs, h1, h2, rfl, hn⟩ := h
  intro k hk
  rcases List.mem_append.1 hk with hk | hk
  · exact (h1.lt k (by simpa using hk)).2
  · obtain ⟨a, ha, hka⟩ := List.mem_flatten.1 hk
    have h3 := h2.mono (Q := fun a _ _ => ∀ k, k ∈ a → k < w.heap.size) fun a b c _ h => R.ownLt h
    obtain ⟨i, hi, rfl⟩ := List.getElem_of_mem ha
    have hl := h2.len
    exact h3.get i hi (by omega) (by omega) k hka
theorem OwnSl.form (h : OwnSl R w e F v l) : ∃ A n c, v = .slice A n c ∧ n = l.length := by
  obtain ⟨csl, Fs, h1, _⟩ := h
  rcases h1.2 with ⟨rfl, h⟩ | ⟨g, cap, cur, rfl, _⟩
  · exact ⟨_, _, _, rfl, h.symm⟩
  · exact ⟨_, _, _, rfl, rfl⟩
theorem OwnSl.toSl {A : Option Addr} {n c lo hi : Nat} (h : OwnSl R w e F (.slice A n c) l) (hF : ∀ k, k ∈ F → lo ≤ k ∧ k < hi) : Sl R w lo hi A n c l := by
  obtain ⟨csl, Fs, h1, h2, rfl, hn⟩ := h
  have hl := h2.len
  have hcs := all3_len h2
  rcases h1.2 with ⟨h, h0⟩ | ⟨g, cap, cur, h, _, hg, hnc, hcm, hsz, htk⟩
  · injection h with e1 e2 e3
    subst e1 e2 e3
    exact ⟨by omega, Nat.le_refl _, Nat.zero_le _, fun h => absurd h (by omega)⟩
  · injection h with e1 e2 e3
    subst e1 e2 e3
    refine ⟨rfl, hnc, hcm, fun hp => ⟨g, 0, rfl, (hF g (by simp [Value.ownBlock])).1, (hF g (by simp [Value.ownBlock])).2, fun i hi' => ⟨csl[i]'(by omega), ?_, fun j hj => ?_⟩⟩⟩
    · refine R.ownRel (h2.get i (by omega) (by omega) hi') fun k hk => hF k ?_
      exact List.mem_append_right _ (List.mem_flatten.2 ⟨_, List.getElem_mem (by omega), hk⟩)
    · have hjs : j < R.size := by rw [← hcs _ (List.getElem_mem (by omega : i < csl.length))]; exact hj
      have hle : i * R.size + j < l.length * R.size := by
        have : (i + 1) * R.size ≤ l.length * R.size := Nat.mul_le_mul_right _ hi'
        rw [Nat.add_mul] at this; omega
      rw [cell_of_row w g _ cur e (0, 0) hg, Nat.zero_add]
      have := flatten_get hcs i (by omega) j hjs
      rw [← htk, List.getElem?_take, if_pos hle] at this
      simp at this
      rw [this]
      simp [hj]
end

def sliceR {α : Type} (e : TypeId) (R : Rp α) : Rp (List α) where
  size := 1
  rel := fun w lo hi cs l => ∃ A n c, cs = [.slice A n c] ∧ Sl R w lo hi A n c l
  own := fun w F cs l => ∃ A n c, cs = [.slice A n c] ∧ OwnSl R w e F (.slice A n c) l
  len := fun ⟨_, _, _, h, _⟩ => by rw [h]; rfl
  ownLen := fun ⟨_, _, _, h, _⟩ => by rw [h]; rfl
  keep := fun h1 h2 hk ⟨A, n, c, e, h⟩ => ⟨A, n, c, e, h.keep h1 h2 hk⟩
  ownKeep := fun hk ⟨A, n, c, e, h⟩ => ⟨A, n, c, e, h.keep hk⟩
  ownRel := fun ⟨A, n, c, e, h⟩ hF => ⟨A, n, c, e, h.toSl hF⟩
  ownLt := fun ⟨_, _, _, _, h⟩ => h.lt
  ownNodup := fun ⟨_, _, _, _, _, _, _, _, _, h⟩ => h

section
variable {α : Type} {R : Rp α} {w w' : World} {lo hi : Nat} {A : Option Addr} {n c : Nat} {l : List α}
theorem Sl.below {B : Nat} (h : Sl R w lo hi A n c l) (hb : Below B w w') (hB : hi ≤ B) : Sl R w' lo hi A n c l :=
  h.keep (Nat.le_refl _) (Nat.le_refl _) fun k _ hk => hb.block k (by omega)
theorem Sl.drew (h : Sl R w lo hi A n c l) : Sl R w.drew lo hi A n c l := h.keep (Nat.le_refl _) (Nat.le_refl _) fun _ _ _ => rfl
theorem Sl.more {lo' hi' : Nat} (h : Sl R w lo hi A n c l) (h1 : lo' ≤ lo) (h2 : hi ≤ hi') : Sl R w lo' hi' A n c l := h.keep h1 h2 fun _ _ _ => rfl
theorem Sl.at_ {k : Nat} (h : Sl R w lo hi A n c l) (hk : k < n) : ∃ b off cs, A = some ⟨b, off, none⟩ ∧ lo ≤ b ∧ b < hi ∧ R.rel w lo hi cs (l[k]'(by have := h.1; omega)) ∧
    ∀ (j : Nat) (hj : j < cs.length), w.cell? ⟨b, off + k * R.size + j, none⟩ = some cs[j] := by
  obtain ⟨e1, _, _, h⟩ := h
  obtain ⟨b, off, rfl, hb1, hb2, h⟩ := h (by omega)
  obtain ⟨cs, hr, hc⟩ := h k (by omega)
  exact ⟨b, off, cs, rfl, hb1, hb2, hr, hc⟩
theorem Sl.lenEq (h : Sl R w lo hi A n c l) : l.length = n := h.1
theorem Sl.lenLe (h : Sl R w lo hi A n c l) : n ≤ 9223372036854775807 := by have := h.2.1; have h2 := h.2.2.1; unfold maxLen at h2; omega
theorem Sl.nil_ (R : Rp α) (w : World) (lo hi : Nat) : Sl R w lo hi none 0 0 [] := ⟨rfl, Nat.le_refl _, Nat.zero_le _, fun h => absurd h (by omega)⟩
end
theorem Sl.int_at {w : World} {lo hi : Nat} {A : Option Addr} {n c k : Nat} {l : List Int} (h : Sl intR w lo hi A n c l) (hk : k < n) :
    ∃ b off, A = some ⟨b, off, none⟩ ∧ lo ≤ b ∧ b < hi ∧ w.cell? ⟨b, off + k, none⟩ = some (.int .i64 (l[k]'(by have := h.1; omega))) ∧ I64 (l[k]'(by have := h.1; omega)) := by
  obtain ⟨b, off, cs, rfl, h1, h2, ⟨rfl, hi⟩, hc⟩ := h.at_ hk
  have := hc 0 (by simp)
  simp [intR, flatR] at this
  exact ⟨b, off, rfl, h1, h2, this, hi⟩

/-! ### a made array that is filled place by place -/
/-- The array of block g (n places) holds the data l at its first places. -/
def Fill {α : Type} (R : Rp α) (w : World) (e : TypeId) (F : List Nat) (g n : Nat) (l : List α) : Prop :=
  ∃ csl Fs rest, w.ownsRow 0 e R.size (.slice (some ⟨g, 0, none⟩) n n) n (csl.flatten ++ rest) ∧ All3 (R.own w) Fs csl l ∧ F = g :: Fs.flatten ∧ F.Nodup ∧ l.length ≤ n

theorem setCells_rowC {w : World} {e : TypeId} {size n n' g : Nat} : ∀ (cs pre mid post : List Value) (o : Nat) (w : World), w.ownsRow 0 e size (.slice (some ⟨g, 0, none⟩) n n') n (pre ++ mid ++ post) → mid.length = cs.length → pre.length = o →
    (w.setCells g o cs).ownsRow 0 e size (.slice (some ⟨g, 0, none⟩) n n') n (pre ++ cs ++ post)
  | [], pre, [], post, _, w, h, _, _ => h
  | c :: cs, pre, m :: mid, post, o, w, h, hl, ho => by
    have h1 := (h.stored o c).1
    have e1 : (pre ++ m :: mid ++ post).set o c = (pre ++ [c]) ++ mid ++ post := by
      subst ho
      simp
    rw [e1] at h1
    have := setCells_rowC (w := w) cs (pre ++ [c]) mid post (o + 1) _ h1 (by simpa using hl) (by simp [ho])
    simpa [World.setCells] using this
  | [], pre, _ :: _, post, _, w, h, hl, _ => by simp at hl
  | _ :: _, pre, [], post, _, w, h, hl, _ => by simp at hl
theorem setCells_row {w : World} {e : TypeId} {size n g : Nat} (cs pre mid post : List Value) (o : Nat) (w : World) (h : w.ownsRow 0 e size (.slice (some ⟨g, 0, none⟩) n n) n (pre ++ mid ++ post)) (h1 : mid.length = cs.length) (h2 : pre.length = o) :
    (w.setCells g o cs).ownsRow 0 e size (.slice (some ⟨g, 0, none⟩) n n) n (pre ++ cs ++ post) := setCells_rowC (w := w) cs pre mid post o w h h1 h2
theorem heap_setCells_other (g : Nat) : ∀ (cs : List Value) (o : Nat) (w : World) (k : Nat), k ≠ g → (w.setCells g o cs).heap[k]? = w.heap[k]?
  | [], _, _, _, _ => rfl
  | c :: cs, o, w, k, h => by
    rw [World.setCells, heap_setCells_other g cs (o + 1) _ k h]
    exact Below.heap_setCell _ _ _ _ h
theorem size_setCells (g : Nat) : ∀ (cs : List Value) (o : Nat) (w : World), (w.setCells g o cs).heap.size = w.heap.size
  | [], _, _ => rfl
  | c :: cs, o, w => by rw [World.setCells, size_setCells g cs]; simp
theorem below_setCells {B : Nat} {a : World} (g : Nat) (hg : B ≤ g) : ∀ (cs : List Value) (o : Nat) (w : World), Below B a w → Below B a (w.setCells g o cs)
  | [], _, _, h => h
  | c :: cs, o, w, h => by
    rw [World.setCells]
    exact below_setCells g hg cs (o + 1) _ (h.setCell (p := ⟨g, o, none⟩) hg c)

section
variable {α : Type} {R : Rp α} {w w' : World} {e : TypeId} {F : List Nat} {g n : Nat} {l : List α}
theorem flatten_len {s : Nat} : ∀ {csl : List (List Value)}, (∀ c ∈ csl, c.length = s) → csl.flatten.length = csl.length * s
  | [], _ => by simp
  | c :: csl, h => by
    rw [List.flatten_cons, List.length_append, h c (List.mem_cons_self ..), flatten_len fun x hx => h x (List.mem_cons_of_mem _ hx), List.length_cons, Nat.add_mul]; omega
theorem Fill.start {rest : List Value} (h : w.ownsRow 0 e R.size (.slice (some ⟨g, 0, none⟩) n n) n rest) : Fill R w e [g] g n [] :=
  ⟨[], [], _, by simpa using h, trivial, rfl, by simp, Nat.zero_le _⟩
theorem Fill.keep (h : Fill R w e F g n l) (hk : ∀ k, k ∈ F → w'.heap[k]? = w.heap[k]?) : Fill R w' e F g n l := by
  obtain ⟨csl, Fs, rest, h1, h2, rfl, hn, hl⟩ := h
  refine ⟨csl, Fs, rest, ownsRow_keep0 h1 fun k hv => hk k ?_, ?_, rfl, hn, hl⟩
  · simp [Value.ownBlock] at hv
    simp [hv]
  · exact h2.mono fun a b c ha h => R.ownKeep (fun k hka => hk k (List.mem_cons_of_mem _ (List.mem_flatten.2 ⟨a, ha, hka⟩))) h
theorem Fill.cell (h : Fill R w e F g n l) (hl : l.length < n) {j : Nat} (hj : j < R.size) : ∃ u, w.cell? ⟨g, l.length * R.size + j, none⟩ = some u := by
  obtain ⟨csl, Fs, rest, h1, h2, rfl, hn, _⟩ := h
  have hle : l.length * R.size + j < n * R.size := by
    have : (l.length + 1) * R.size ≤ n * R.size := Nat.mul_le_mul_right _ hl
    rw [Nat.add_mul] at this; omega
  rw [h1.cellAt _ hle]
  exact ⟨_, List.getElem?_eq_getElem (by rw [h1.1]; exact hle)⟩
theorem Fill.frozen (h : Fill R w e F g n l) (j : Nat) : w.frozen? ⟨g, j, none⟩ = false := by
  obtain ⟨csl, Fs, rest, h1, _⟩ := h
  exact h1.frozenAt j
theorem Fill.lt (h : Fill R w e F g n l) : ∀ k, k ∈ F → k < w.heap.size := by
  obtain ⟨csl, Fs, rest, h1, h2, rfl, hn, _⟩ := h
  intro k hk
  rcases List.mem_cons.1 hk with rfl | hk
  · exact (h1.lt k rfl).2
  · obtain ⟨a, ha, hka⟩ := List.mem_flatten.1 hk
    have h3 := h2.mono (Q := fun a _ _ => ∀ k, k ∈ a → k < w.heap.size) fun a b c _ h => R.ownLt h
    obtain ⟨i, hi, rfl⟩ := List.getElem_of_mem ha
    have hl := h2.len
    exact h3.get i hi (by omega) (by omega) k hka
theorem Fill.step {Fx : List Nat} {cs : List Value} {x : α} (h : Fill R w e F g n l) (hl : l.length < n) (hx : R.own w Fx cs x) (hd : ∀ k, k ∈ Fx → k ∉ F) :
    Fill R (w.setCells g (l.length * R.size) cs) e (F ++ Fx) g n (l ++ [x]) := by
  obtain ⟨csl, Fs, rest, h1, h2, rfl, hn, _⟩ := h
  have hlen := h2.len
  have hfl : csl.flatten.length = l.length * R.size := by rw [flatten_len (all3_len h2), hlen.2]
  have hcs := R.ownLen hx
  have hrest : R.size ≤ rest.length := by
    have := h1.1
    rw [List.length_append, hfl] at this
    have h3 : (l.length + 1) * R.size ≤ n * R.size := Nat.mul_le_mul_right _ hl
    rw [Nat.add_mul] at h3; omega
  have hkeep : ∀ k, k ≠ g → (w.setCells g (l.length * R.size) cs).heap[k]? = w.heap[k]? := fun k hk => heap_setCells_other g cs _ w k hk
  have hg : g ∉ Fs.flatten := (List.nodup_cons.1 hn).1
  refine ⟨csl ++ [cs], Fs ++ [Fx], rest.drop R.size, ?_, ?_, by simp, ?_, by simp; omega⟩
  · have := setCells_row (w := w) (g := g) cs csl.flatten (rest.take R.size) (rest.drop R.size) (l.length * R.size) w (by rw [List.append_assoc, List.take_append_drop]; exact h1) (by rw [List.length_take, hcs]; omega) hfl
    simpa using this
  · refine All3.snoc ?_ (h2.mono fun a b c ha h => R.ownKeep (fun k hka => hkeep k ?_) h)
    · exact R.ownKeep (fun k hk => hkeep k (fun e => by subst e; exact hd _ hk (List.mem_cons_self ..))) hx
    · rintro rfl
      exact hg (List.mem_flatten.2 ⟨a, ha, hka⟩)
  · rw [List.nodup_append]
    exact ⟨hn, R.ownNodup hx, fun a ha b hb hab => hd b hb (hab ▸ ha)⟩
theorem Fill.done (h : Fill R w e F g n l) (hl : l.length = n) : OwnSl R w e F (.slice (some ⟨g, 0, none⟩) n n) l := by
  obtain ⟨csl, Fs, rest, h1, h2, rfl, hn, _⟩ := h
  have hlen := h2.len
  have hfl : csl.flatten.length = l.length * R.size := by rw [flatten_len (all3_len h2), hlen.2]
  have hr : rest = [] := by
    have := h1.1
    rw [List.length_append, hfl, hl] at this
    exact List.eq_nil_of_length_eq_zero (by omega)
  subst hr
  subst hl
  exact ⟨csl, Fs, by simpa using h1, h2, rfl, hn⟩
end
theorem Fill.cell' {α : Type} {R : Rp α} {w : World} {e : TypeId} {F : List Nat} {g n k j : Nat} {l : List α} (h : Fill R w e F g n l) (hl : l.length = k) (hk : k < n) (hj : j < R.size) : ∃ u, w.cell? ⟨g, k * R.size + j, none⟩ = some u := by
  subst hl; exact h.cell hk hj
theorem Fill.below {α : Type} {R : Rp α} {w w' : World} {e : TypeId} {F : List Nat} {g n : Nat} {l : List α} (h : Fill R w e F g n l) (hb : Below w.heap.size w w') : Fill R w' e F g n l :=
  h.keep fun k hk => hb.block k (h.lt k hk)
theorem Fill.step' {α : Type} {R : Rp α} {w : World} {e : TypeId} {F : List Nat} {g n k : Nat} {l : List α} {Fx : List Nat} {cs : List Value} (h : Fill R w e F g n (l.take k)) (hln : l.length = n) (hk : k < n) (hx : R.own w Fx cs (l[k]'(by omega))) (hd : ∀ i, i ∈ Fx → i ∉ F) :
    Fill R (w.setCells g (k * R.size) cs) e (F ++ Fx) g n (l.take (k + 1)) := by
  have hlk : (l.take k).length = k := by simp; omega
  have := h.step (by omega) hx hd
  rwa [hlk, ← List.take_succ_eq_append_getElem (by omega)] at this
theorem below_then {a b c : World} (h : Below a.heap.size a b) (k : Below b.heap.size b c) : Below a.heap.size a c := h.trans (k.mono h.size)
/-- The call returns a slice of its own that reads as l; what was there is as it was. -/
def RetOwn {α : Type} (R : Rp α) (E : TypeId) (l : List α) (w : World) (e : Ending) (w' : World) : Prop :=
  ∃ F A n c, e = .returned (.slice A n c) ∧ OwnSl R w' E F (.slice A n c) l ∧ (∀ k, k ∈ F → w.heap.size ≤ k) ∧ Below w.heap.size w w'

theorem RetOwn.mk {α : Type} {R : Rp α} {E : TypeId} {l : List α} {w w' : World} {e : Ending} {F : List Nat} {A : Option Addr} {n c : Nat} (he : e = .returned (.slice A n c)) (ho : OwnSl R w' E F (.slice A n c) l)
    (hF : ∀ k, k ∈ F → w.heap.size ≤ k) (hb : Below w.heap.size w w') : RetOwn R E l w e w' := ⟨F, A, n, c, he, ho, hF, hb⟩
theorem Fill.all {α : Type} {R : Rp α} {w : World} {e : TypeId} {F : List Nat} {g n k : Nat} {l : List α} (h : Fill R w e F g n (l.take k)) (h1 : l.length = n) (h2 : n ≤ k) : OwnSl R w e F (.slice (some ⟨g, 0, none⟩) n n) l := by
  rw [List.take_of_length_le (by omega)] at h
  exact h.done h1
/-! ### marks: the laws write rising numbers into what they hold -/
def mk (k : Int) (m : Nat) : List Value := (List.range m).map fun (t : Nat) => Value.int .i64 (k + (t : Int))
theorem mk_len (k : Int) (m : Nat) : (mk k m).length = m := by simp [mk]
theorem mk_succ (k : Int) (m : Nat) : mk k (m + 1) = mk k m ++ [.int .i64 (k + (m : Int))] := by simp [mk, List.range_succ]
theorem mk_at (k : Int) (m j : Nat) (h : j < m) : (mk k m)[j]? = some (.int .i64 (k + (j : Int))) := by simp [mk, h]
theorem mk_set (k : Int) (j : Nat) (xs : List Value) (h : j < xs.length) : (mk k j ++ xs.drop j).set j (.int .i64 (k + (j : Int))) = mk k (j + 1) ++ xs.drop (j + 1) := by
  rw [List.set_append_right _ _ (by rw [mk_len]; omega), mk_len, Nat.sub_self, List.drop_eq_getElem_cons h, List.set_cons_zero, mk_succ]
  simp
theorem mark_row {w : World} {e : TypeId} {size n n' g : Nat} {k : Int} {t s : Nat} {xs cs : List Value} (h : w.ownsRow 0 e size (.slice (some ⟨g, 0, none⟩) n n') n (mk k t ++ xs.drop t)) (hcs : mk k (t + s) = mk k t ++ cs) (hs : cs.length = s) (hl : t + s ≤ xs.length) :
    (w.setCells g t cs).ownsRow 0 e size (.slice (some ⟨g, 0, none⟩) n n') n (mk k (t + s) ++ xs.drop (t + s)) := by
  have e1 : xs.drop t = (xs.drop t).take s ++ xs.drop (t + s) := by rw [← List.drop_drop, List.take_append_drop]
  rw [e1, ← List.append_assoc] at h
  rw [hcs]
  exact setCells_rowC (w := w) cs (mk k t) _ _ t w h (by rw [List.length_take, List.length_drop]; omega) (mk_len k t)
theorem mk_add2 (k : Int) (t : Nat) : mk k (t + 2) = mk k t ++ [.int .i64 (k + (t : Int)), .int .i64 (k + (t : Int) + 1)] := by
  rw [show t + 2 = (t + 1) + 1 from rfl, mk_succ, mk_succ, List.append_assoc]; simp; omega
theorem mk_add3 (k : Int) (t : Nat) : mk k (t + 3) = mk k t ++ [.int .i64 (k + (t : Int)), .int .i64 (k + (t : Int) + 1), .int .i64 (k + (t : Int) + 1 + 1)] := by
  rw [show t + 3 = (t + 2) + 1 from rfl, mk_succ, mk_add2, List.append_assoc]; simp; omega
/-- Only the blocks of F (and new ones) may have turned. -/
structure Fr (F : List Nat) (w w' : World) : Prop where
  os : w'.os = w.os
  tape : w'.tape = w.tape
  output : w'.output = w.output
  size : w.heap.size ≤ w'.heap.size
  block : ∀ k, k < w.heap.size → k ∉ F → w'.heap[k]? = w.heap[k]?
theorem Fr.refl (F : List Nat) (w : World) : Fr F w w := ⟨rfl, rfl, rfl, Nat.le_refl _, fun _ _ _ => rfl⟩
theorem Fr.trans {F : List Nat} {a b c : World} (h : Fr F a b) (k : Fr F b c) : Fr F a c :=
  ⟨k.os.trans h.os, k.tape.trans h.tape, k.output.trans h.output, Nat.le_trans h.size k.size, fun i hi hn => (k.block i (Nat.lt_of_lt_of_le hi h.size) hn).trans (h.block i hi hn)⟩
theorem Fr.more {F F' : List Nat} {a b : World} (h : Fr F a b) (hs : ∀ k, k ∈ F → k ∈ F') : Fr F' a b := ⟨h.os, h.tape, h.output, h.size, fun i hi hn => h.block i hi (fun hx => hn (hs i hx))⟩
theorem Fr.drew {F : List Nat} {a w : World} (h : Fr F a w) : Fr F a w.drew := ⟨h.os, h.tape, h.output, h.size, h.block⟩
theorem Fr.drewN {F : List Nat} {a w : World} (h : Fr F a w) (n : Nat) : Fr F a (w.drewN n) := ⟨h.os, h.tape, h.output, h.size, h.block⟩
theorem Fr.alloc {F : List Nat} {a w : World} (h : Fr F a w) (o : Obj) : Fr F a (w.alloc o) :=
  h.trans ⟨rfl, rfl, rfl, by simp, fun k hk _ => Below.heap_alloc _ _ _ hk⟩
theorem Fr.setCell {F : List Nat} {a w : World} (h : Fr F a w) {p : Addr} (hp : p.block ∈ F) (u : Value) : Fr F a (w.setCell p u) :=
  h.trans ⟨rfl, rfl, rfl, by simp [World.setCell], fun k hk hn => Below.heap_setCell _ _ _ _ (fun e => hn (e ▸ hp))⟩
theorem Fr.of_below {F : List Nat} {a w : World} (h : Below a.heap.size a w) : Fr F a w := ⟨h.os, h.tape, h.output, h.size, fun k hk _ => h.block k hk⟩
/-- What was changed is new since an elder world: seen from there nothing has turned. -/
theorem below_fr {F : List Nat} {a b c : World} (h : Below a.heap.size a b) (k : Fr F b c) (hF : ∀ i, i ∈ F → a.heap.size ≤ i) : Below a.heap.size a c :=
  ⟨k.os.trans h.os, k.tape.trans h.tape, k.output.trans h.output, Nat.le_trans h.size k.size, fun i hi => (k.block i (Nat.lt_of_lt_of_le hi h.size) (fun hx => by have := hF i hx; omega)).trans (h.block i hi)⟩
theorem Fr.setCells {F : List Nat} {a : World} (g : Nat) (hg : g ∈ F) : ∀ (cs : List Value) (o : Nat) (w : World), Fr F a w → Fr F a (w.setCells g o cs)
  | [], _, _, h => h
  | c :: cs, o, w, h => by
    rw [World.setCells]
    exact Fr.setCells g hg cs (o + 1) _ (h.setCell (p := ⟨g, o, none⟩) hg c)
theorem own_cell {w : World} {e : TypeId} {size n c g j : Nat} {xs : List Value} (ho : w.ownsRow 0 e size (.slice (some ⟨g, 0, none⟩) n c) n xs) (hj : j < n * size) : ∃ u, w.cell? ⟨g, j, none⟩ = some u := by
  rw [ho.cellAt j hj]; exact ⟨_, List.getElem?_eq_getElem (by rw [ho.1]; exact hj)⟩
theorem Sl.fr {α : Type} {R : Rp α} {w w' : World} {lo hi : Nat} {A : Option Addr} {n c : Nat} {l : List α} {F : List Nat} (h : Sl R w lo hi A n c l) (hf : Fr F w w') (hh : hi ≤ w.heap.size) (hd : ∀ k, k ∈ F → k < lo ∨ hi ≤ k) : Sl R w' lo hi A n c l :=
  h.keep (Nat.le_refl _) (Nat.le_refl _) fun k h1 h2 => hf.block k (by omega) (fun hx => by have := hd k hx; omega)
theorem OwnSl.fr {α : Type} {R : Rp α} {w w' : World} {e : TypeId} {F G : List Nat} {v : Value} {l : List α} (h : OwnSl R w e F v l) (hf : Fr G w w') (hd : ∀ k, k ∈ F → k ∉ G) : OwnSl R w' e F v l :=
  h.keep fun k hk => hf.block k (h.lt k hk) (hd k hk)
theorem OwnSl.below {α : Type} {R : Rp α} {w w' : World} {e : TypeId} {F : List Nat} {v : Value} {l : List α} (h : OwnSl R w e F v l) (hf : Below w.heap.size w w') : OwnSl R w' e F v l :=
  h.keep fun k hk => hf.block k (h.lt k hk)
/-- The blocks of a slice value's own array, as a list. -/
theorem OwnSl.row {α : Type} {R : Rp α} {w : World} {e : TypeId} {F : List Nat} {v : Value} {l : List α} (h : OwnSl R w e F v l) : ∃ xs, w.ownsRow 0 e R.size v l.length xs ∧ ∀ g, v.ownBlock = some g → g ∈ F := by
  obtain ⟨csl, Fs, h1, _, rfl, _⟩ := h
  exact ⟨_, h1, fun g hg => by rw [hg]; simp⟩
/-- A slice value is nil (and empty) or stands at the head of a block of its own. -/
theorem ownsRow_cases {w : World} {e : TypeId} {size n m c : Nat} {A : Option Addr} {xs : List Value} (h : w.ownsRow 0 e size (.slice A m c) n xs) :
    m = n ∧ ((A = none ∧ n = 0 ∧ c = 0) ∨ ∃ g, A = some ⟨g, 0, none⟩ ∧ n ≤ c ∧ c ≤ 9223372036854775807) := by
  rcases h.2 with ⟨h1, h2⟩ | ⟨g, cap, cur, h1, _, _, h3, h4, _⟩
  · injection h1 with a b c
    subst a b c
    exact ⟨h2.symm, Or.inl ⟨rfl, h2, rfl⟩⟩
  · injection h1 with a b c
    subst a b c
    unfold maxLen at h4
    exact ⟨rfl, Or.inr ⟨g, rfl, h3, by omega⟩⟩

/-- Whether two data are the same: under a name that the walk does not open. -/
noncomputable def eqB {α : Type} (x y : α) : Bool := @decide (x = y) (Classical.propDecidable _)
theorem eqB_true {α : Type} {x y : α} (h : x = y) : eqB x y = true := @decide_eq_true _ (Classical.propDecidable _) h
theorem eqB_false {α : Type} {x y : α} (h : ¬ x = y) : eqB x y = false := @decide_eq_false _ (Classical.propDecidable _) h
theorem eqB_iff {α : Type} {x y : α} : eqB x y = true ↔ x = y := @decide_eq_true_iff _ (Classical.propDecidable _)
theorem below_cell {w w' : World} {p : Addr} {v : Value} (hb : Below w.heap.size w w') (h : w.cell? p = some v) : w'.cell? p = some v := (hb.cell (World.block_lt_of_cell? w p h)).trans h
/-- The call returns a bool; what was there is as it was. -/
def RetB (b : Bool) (w : World) (e : Ending) (w' : World) : Prop := e = .returned (.bool b) ∧ Below w.heap.size w w'
theorem RetB.mk {b b' : Bool} {w w' : World} (h : b' = b) (hb : Below w.heap.size w w') : RetB b w (.returned (.bool b')) w' := ⟨by rw [h], hb⟩

/-- A row of the call's own that holds ints owns its list. -/
theorem own_ints {w : World} {base : Nat} {e : TypeId} {v : Value} {l : List Int} (h : w.ownsRow base e 1 v l.length (l.map (Value.int .i64))) (hi : ∀ x, x ∈ l → I64 x) : OwnSl intR w e v.ownBlock.toList v l := by
  refine ⟨l.map fun x => [.int .i64 x], l.map fun _ => [], ?_, ?_, ?_, ?_⟩
  · have e1 : (l.map fun x => [Value.int .i64 x]).flatten = l.map (Value.int .i64) := by
      clear h hi
      induction l with
      | nil => rfl
      | cons x l ih => simp only [List.map_cons, List.flatten_cons, ih]; rfl
    rw [e1]
    refine ⟨h.1, ?_⟩
    rcases h.2 with h | ⟨g, cap, cur, a, b, r⟩
    · exact .inl h
    · exact .inr ⟨g, cap, cur, a, Nat.zero_le _, r⟩
  · clear h
    induction l with
    | nil => trivial
    | cons x l ih => exact ⟨⟨rfl, rfl, hi x (List.mem_cons_self ..)⟩, ih fun y hy => hi y (List.mem_cons_of_mem _ hy)⟩
  · have e2 : (l.map fun _ => ([] : List Nat)).flatten = [] := by
      clear h hi
      induction l with
      | nil => rfl
      | cons x l ih => simp only [List.map_cons, List.flatten_cons, ih]; rfl
    rw [e2, List.append_nil]
  · cases v.ownBlock <;> simp
theorem RetOwn.ints {E : TypeId} {l : List Int} {w w' : World} {v : Value} (h : w'.ownsRow w.heap.size E 1 v l.length (l.map (Value.int .i64))) (hi : ∀ x, x ∈ l → I64 x) (hb : Below w.heap.size w w') : RetOwn intR E l w (.returned v) w' := by
  have ho := own_ints h hi
  obtain ⟨A, n, c, hv, _⟩ := ho.form
  subst hv
  exact ⟨_, A, n, c, rfl, ho, fun k hk => (h.lt k (by simpa using hk)).1, hb⟩
theorem below_own {w wr wm w' : World} {E : TypeId} {size n : Nat} {v : Value} {xs : List Value} (ho : wr.ownsRow w.heap.size E size v n xs) (hg : wm.grownBy w' v.ownBlock) (hb : Below w.heap.size w wm) : Below w.heap.size w w' :=
  hb.grown hg hb.size fun k hk => (ho.lt k hk).1
theorem cell_new1 (w : World) (u : Value) (t : TypeId) {g : Nat} (hg : w.heap.size = g) : ∀ j v, [u][j]? = some v → (w.alloc (.cells #[u] t)).cell? ((⟨g, 0, none⟩ : Addr).add j) = some v := by
  intro j v h
  subst hg
  match j, h with
  | 0, h =>
    simp at h
    subst h
    rw [show (⟨w.heap.size, 0, none⟩ : Addr).add 0 = ⟨w.heap.size, 0, none⟩ from rfl]
    rw [cell_of_row _ _ _ _ _ _ (heap_alloc_new w _)]
    rfl
  | j + 1, h => simp at h

/-- The call returns a slice of its own that reads as l, and a bool; what was there is as it was. -/
def RetOwnB {α : Type} (R : Rp α) (E : TypeId) (l : List α) (b : Bool) (w : World) (e : Ending) (w' : World) : Prop :=
  ∃ F A n c, e = .returned (.tuple #[.slice A n c, .bool b]) ∧ OwnSl R w' E F (.slice A n c) l ∧ (∀ k, k ∈ F → w.heap.size ≤ k) ∧ Below w.heap.size w w'
theorem RetOwnB.mk {α : Type} {R : Rp α} {E : TypeId} {l : List α} {b b' : Bool} {w w' : World} {F : List Nat} {A : Option Addr} {n c : Nat} (ho : OwnSl R w' E F (.slice A n c) l)
    (hF : ∀ k, k ∈ F → w.heap.size ≤ k) (he : b' = b) (hb : Below w.heap.size w w') : RetOwnB R E l b w (.returned (.tuple #[.slice A n c, .bool b'])) w' := ⟨F, A, n, c, by rw [he], ho, hF, hb⟩
theorem OwnSl.nil_ {α : Type} (R : Rp α) (w : World) (e : TypeId) : OwnSl R w e [] (.slice none 0 0) [] := ⟨[], [], World.ownsRow_nil _ _ _ _, trivial, rfl, by simp⟩
theorem RetOwnB.nil_ {α : Type} {R : Rp α} {E : TypeId} {b' b : Bool} {l : List α} {w w' : World} (hl : l = []) (he : b' = b) (hb : Below w.heap.size w w') : RetOwnB R E l b w (.returned (.tuple #[.slice none 0 0, .bool b'])) w' := by
  subst hl; exact RetOwnB.mk (OwnSl.nil_ R w' E) (by simp) he hb
theorem RetOwnB.ints {E : TypeId} {l : List Int} {b b' : Bool} {w w' : World} {v : Value} (h : w'.ownsRow w.heap.size E 1 v l.length (l.map (Value.int .i64))) (hi : ∀ x, x ∈ l → I64 x) (he : b' = b) (hb : Below w.heap.size w w') : RetOwnB intR E l b w (.returned (.tuple #[v, .bool b'])) w' := by
  obtain ⟨F, A, n, c, hv, ho, hF, hb⟩ := RetOwn.ints h hi hb
  injection hv with hv
  subst hv
  exact RetOwnB.mk ho hF he hb

theorem OwnSl.sl {α : Type} {R : Rp α} {w : World} {e : TypeId} {F : List Nat} {A : Option Addr} {n c : Nat} {l : List α} (h : OwnSl R w e F (.slice A n c) l) : Sl R w 0 w.heap.size A n c l := h.toSl fun k hk => ⟨Nat.zero_le _, h.lt k hk⟩
theorem ownsRow_below {w w' : World} {base : Nat} {e : TypeId} {size n : Nat} {v : Value} {xs : List Value} (h : w.ownsRow base e size v n xs) (hb : Below w.heap.size w w') : w'.ownsRow base e size v n xs :=
  ownsRow_keep0 h fun k hk => hb.block k (h.lt k hk).2
theorem OwnSl.row' {α : Type} {R : Rp α} {w : World} {e : TypeId} {F : List Nat} {A : Option Addr} {n c : Nat} {l : List α} (h : OwnSl R w e F (.slice A n c) l) : ∃ xs, w.ownsRow 0 e R.size (.slice A n c) n xs ∧ (∀ g, A = some ⟨g, 0, none⟩ → g ∈ F) ∧ l.length = n := by
  obtain ⟨xs, h1, h2⟩ := h.row
  have hn := (ownsRow_cases h1).1
  subst hn
  exact ⟨xs, h1, fun g hg => h2 g (by rw [hg]; rfl), rfl⟩

theorem bcell {W w1 : World} (hb : Below W.heap.size W w1) : (∀ b o, b < W.heap.size → w1.cell? ⟨b, o, none⟩ = W.cell? ⟨b, o, none⟩) ∧ (∀ b o, b < W.heap.size → w1.frozen? ⟨b, o, none⟩ = W.frozen? ⟨b, o, none⟩) :=
  ⟨fun b o h => hb.cell (p := ⟨b, o, none⟩) h, fun b o h => hb.frozen (p := ⟨b, o, none⟩) h⟩

theorem OwnSl.nodup {α : Type} {R : Rp α} {w : World} {e : TypeId} {F : List Nat} {v : Value} {l : List α} (h : OwnSl R w e F v l) : F.Nodup := by
  obtain ⟨_, _, _, _, _, h⟩ := h; exact h

theorem nodup_app {F G : List Nat} {m : Nat} (h1 : F.Nodup) (h2 : G.Nodup) (hl : ∀ k, k ∈ F → k < m) (hg : ∀ k, k ∈ G → m ≤ k) : (F ++ G).Nodup := by
  rw [List.nodup_append]
  exact ⟨h1, h2, fun a ha b hb hab => by have := hl a ha; have := hg b hb; omega⟩
theorem mem_sum_le {α : Type} {f : α → Nat} {x : α} : ∀ {l : List α}, x ∈ l → f x ≤ (l.map f).sum
  | y :: l, h => by
    rcases List.mem_cons.1 h with rfl | h
    · simp
    · have := mem_sum_le (f := f) h; simp; omega
theorem sum_take_succ {α : Type} {f : α → Nat} {l : List α} {k : Nat} (hk : k < l.length) : ((l.take (k + 1)).map f).sum = ((l.take k).map f).sum + f l[k] := by
  rw [List.take_succ_eq_append_getElem hk, List.map_append, List.sum_append]; simp

theorem Sl.next {α : Type} {R : Rp α} {w w' : World} {A : Option Addr} {n c : Nat} {l : List α} (h : Sl R w 0 w.heap.size A n c l) (hb : Below w.heap.size w w') : Sl R w' 0 w'.heap.size A n c l :=
  (h.below hb (Nat.le_refl _)).more (Nat.le_refl _) hb.size
/-- The call returns v; what was there is as it was. -/
def RetV (v : Value) (w : World) (e : Ending) (w' : World) : Prop := e = .returned v ∧ Below w.heap.size w w'

theorem wrap_small {n : Int} (h1 : 0 ≤ n) (h2 : n < 9223372036854775808) : wrap64 n = n := by unfold wrap64; omega
theorem byte_bd (c : UInt8) : (0 : Int) ≤ (c.toNat : Int) ∧ (c.toNat : Int) < 256 := by have := c.toNat_lt; omega
theorem int_eq {k : IntKind} {a b : Int} (h : a = b) : Value.int k a = .int k b := by rw [h]
theorem ret_int {k : IntKind} {a b : Int} (h : a = b) : Ending.returned (.int k a) = .returned (.int k b) := by rw [h]
theorem ret_bool {a b : Bool} (h : a = b) : Ending.returned (.bool a) = .returned (.bool b) := by rw [h]
theorem below_alloc {a w : World} (h : Below a.heap.size a w) (o : Obj) : Below a.heap.size a (w.alloc o) := h.alloc h.size o
theorem below_drewN {B : Nat} {a w : World} (h : Below B a w) (n : Nat) : Below B a (w.drewN n) := ⟨h.os, h.tape, h.output, h.size, h.block⟩
/-! ### worlds written out: the proof is the argument's own script -/
theorem belA {n : Nat} {a b : World} (h : Below n a b := by (repeat (first | with_reducible exact Below.refl _ _ | with_reducible assumption | with_reducible refine below_alloc ?_ _ | ((with_reducible refine Below.setCell ?_ ?_ _); rotate_left; (· first | exact Nat.le_refl _ | (simp; done) | (simp; omega))) | with_reducible refine below_drewN ?_ _ | with_reducible refine Below.drew ?_ | with_reducible refine below_then ?_ (by with_reducible assumption)))) : Below n a b := h
theorem beloA {n : Nat} {a b : World} (h : Below n a b := by (repeat (first | with_reducible exact Below.refl _ _ | with_reducible assumption | with_reducible refine below_alloc ?_ _ | ((with_reducible refine Below.setCell ?_ ?_ _); rotate_left; (· first | exact Nat.le_refl _ | omega | (simp; done) | (simp; omega))) | with_reducible refine below_drewN ?_ _ | with_reducible refine Below.drew ?_ | with_reducible refine below_then ?_ (by with_reducible assumption)))) : Below n a b := h
theorem frcA {F : List Nat} {a b : World} (h : Fr F a b := by (repeat (first | with_reducible exact Fr.refl _ _ | with_reducible assumption | ((with_reducible refine Fr.setCell ?_ ?_ _); rotate_left; (· first | (simp; done) | assumption | (simp; assumption))) | with_reducible refine Fr.drewN ?_ _ | with_reducible refine Fr.drew ?_ | with_reducible refine Fr.alloc ?_ _ | with_reducible refine Fr.trans ?_ (Fr.of_below (by with_reducible assumption))))) : Fr F a b := h
theorem take_eq_snoc {α : Type} {l l' : List α} {k : Nat} (h : l.take k = l'.take k) (h1 : k < l.length) (h2 : k < l'.length) (he : l[k] = l'[k]) : l.take (k + 1) = l'.take (k + 1) := by
  rw [List.take_succ_eq_append_getElem h1, List.take_succ_eq_append_getElem h2, h, he]
theorem ne_of_at {α : Type} {l l' : List α} {k : Nat} (h1 : k < l.length) (h2 : k < l'.length) (he : ¬ l[k] = l'[k]) : ¬ l = l' := by
  rintro rfl; exact he rfl
theorem eq_of_takes {α : Type} {l l' : List α} {k : Nat} (h : l.take k = l'.take k) (h1 : l.length ≤ k) (h2 : l'.length ≤ k) : l = l' := by
  rwa [List.take_of_length_le h1, List.take_of_length_le h2] at h
end Go.Proofs.Ytgoinmdnpaknpaa

/- The row of a law: from a walk that returns true and leaves all old memory as it was. Plain lemmas. -/
set_option linter.unusedVariables false
set_option linter.unusedSimpArgs false
namespace Go.Proofs.Ytgoinmdnpaknpaa
open Go.ChangeShapes Go.WideShapes Go.ChangeAt Go.RowKit

theorem Try.own : ownKnob Try.prog.godebug = none := by kernel_rfl
theorem Try.laidOut : laidOutB Try.prog = true := by kernel_rfl

section
variable {H : Type} {enc : TypeId × Value → H} {P : Program}
theorem trodAll_below {W W' : World} (hl : laidOutB P = true) (hb : Below W.heap.size W W') (sp : Nat → Bool) : ∀ (ts : List TypeId) (vs : List Value) (ds : List (DataW H)) (ps : List MemPlace),
    (∀ t, t ∈ ts → P.readableRec t = true ∧ t < P.types.size) → DataW.TrodAll enc P W 0 (fun _ => true) true ts vs ds ps → (∀ x, x ∈ ps → x.block < W.heap.size) → (∀ x, x ∈ ps → sp x.block = true) →
    DataW.TrodAll enc P W' 0 sp true ts vs ds ps
  | [], [], [], ps, _, h, _, _ => h
  | t :: ts, v :: vs, d :: ds, ps, hr, h, hlt, hsp => by
    obtain ⟨p, q, h1, h2, rfl⟩ := h
    have ht := hr t (List.mem_cons_self ..)
    refine ⟨p, q, WideElems.Trod_stays hl ht.1 ht.2 h1 (fun x hx => hb.same (hlt x (List.mem_append_left _ hx))) (fun x hx => hsp x (List.mem_append_left _ hx)), ?_, rfl⟩
    exact trodAll_below hl hb sp ts vs ds q (fun t h => hr t (List.mem_cons_of_mem _ h)) h2 (fun x hx => hlt x (List.mem_append_right _ hx)) (fun x hx => hsp x (List.mem_append_right _ hx))
  | [], [], _ :: _, _, _, h, _, _ => h.elim
  | [], _ :: _, [], _, _, h, _, _ => h.elim
  | [], _ :: _, _ :: _, _, _, h, _, _ => h.elim
  | _ :: _, [], [], _, _, h, _, _ => h.elim
  | _ :: _, [], _ :: _, _, _, h, _, _ => h.elim
  | _ :: _, _ :: _, [], _, _, h, _, _ => h.elim

theorem law_post {f : Func} {s : ChangeSpec} {apart fresh handsOn again : Bool} {W W' : World} {args : Array Value} {ds gs : List (DataW H)} {before : List MemPlace} {T : TypeId}
    (hW : DataW.Whole enc P f.params.toList s.vars apart W args.toList ds gs before) (hv : s.vars = []) (hl : laidOutB P = true) (hr : ∀ t, t ∈ f.params.toList → P.readableRec t = true ∧ t < P.types.size)
    (hT : f.resultTypes = #[T]) (hTu : P.underlying T = some .bool) (hs : s.fn H (ds ++ gs) = { results := [.lit (.bool true)], args := ds }) (hb : Below W.heap.size W W') :
    s.post enc P f apart fresh handsOn again W args (.bool true) W' := by
  have hW' := hW
  obtain ⟨p, q, hA, hV, rfl, hz, hn⟩ := hW
  have hq : q = [] ∧ gs = [] := by
    rw [hv] at hV
    cases gs with
    | nil => exact ⟨hV, rfl⟩
    | cons => exact hV.elim
  obtain ⟨rfl, rfl⟩ := hq
  simp only [List.append_nil] at hs hW' hz hn ⊢
  have hlt : ∀ x ∈ p, x.block < W.heap.size := fun x hx => hW'.lt x hx
  have hres : ∀ (b : Nat) (sp : Nat → Bool) (hd : Bool), DataW.TrodAll enc P W' b sp hd f.resultTypes.toList ((Value.bool true).resultList f.resultTypes.size) (s.fn H ds).results [] := by
    intro b sp hd
    rw [hs, hT]
    exact trodAll_mk1 (shut_bool hTu true)
  have hargs : ∀ sp : Nat → Bool, (∀ x ∈ p, sp x.block = true) → DataW.TrodAll enc P W' 0 sp true f.params.toList args.toList (s.fn H ds).args p := by
    intro sp hsp
    rw [hs]
    exact trodAll_below hl hb sp _ _ _ _ hr hA hlt hsp
  have hvars : ∀ sp : Nat → Bool, DataW.TrodVars enc P W' sp s.vars (s.fn H ds).vars [] := by
    intro sp
    rw [hs, hv]
    rfl
  have hold : ∀ x ∈ p, (fun b => decide (b < W.heap.size)) x.block = true := fun x hx => by simpa using hlt x hx
  refine ⟨ds, [], p, [], p, [], hW', ?_, ?_, ?_, World.keptBut_mono (fun x hx => ⟨hx, Or.inr (Or.inl hx)⟩) (hb.frame (· ∈ p)), fun _ => ⟨?_, ?_⟩⟩
  · simp only [List.append_nil]; exact hres _ _ _
  · simp only [List.append_nil]; exact hargs _ hold
  · simp only [List.append_nil]; exact hvars _
  · intro j t r h1 h2
    rw [hT] at h1 h2
    match j, h1, h2 with
    | 0, h1, h2 =>
      simp [Value.resultList] at h1 h2
      subst h1 h2
      exact okWide_bool_mk hTu true
    | j + 1, h1, _ => simp at h1
  · refine ⟨(s.fn H ds).results ++ ds, (s.fn H ds).vars, ([] ++ p) ++ [], ⟨[] ++ p, [], trodAll_append ?_ (hres _ _ _), hvars _, rfl, ?_, ?_⟩, ?_⟩
    · have := hargs (fun _ => true) (fun _ _ => rfl)
      rwa [hs] at this
    · intro b off hp
      have hin : MemPlace.cell b off ∈ p := by simpa using hp
      rw [hb.frozen (hlt _ hin)]
      exact hz b off hin
    · intro ha
      simpa using hn ha
    · intro x hx _
      simpa using hx
end

/-! ### an argument's reading, as the relation of the words for memory -/
/-- Whatever reads as a datum of type t stands in R to some a. -/
def Rd {α : Type} (P : Program) (t : TypeId) (R : Rp α) : Prop :=
  ∀ (H : Type) (enc : TypeId × Value → H) (W : World) (held : Bool) (fuel : Nat) (cs : List Value) (x : DataW H × List MemPlace), DataW.trod enc P W 0 (fun _ => true) held fuel t cs = some x → ∃ a, R.rel W 0 W.heap.size cs a
theorem rd_int {P : Program} {t : TypeId} (h : P.underlying t = some (.int .i64)) : Rd P t intR := by
  intro H enc W held fuel cs x hx
  obtain ⟨n, rfl, _, hw⟩ := DataW.trod_int h hx
  refine ⟨n, rfl, ?_⟩
  have := bounds_i64 hw
  exact this
theorem rd_bool {P : Program} {t : TypeId} (h : P.underlying t = some .bool) : Rd P t boolR := by
  intro H enc W held fuel cs x hx
  obtain ⟨b, rfl, _⟩ := DataW.trod_bool h hx
  exact ⟨b, rfl, trivial⟩
theorem rd_slice {α : Type} {P : Program} {t e E : TypeId} {R : Rp α} (h : P.underlying t = some (.slice e)) (hc : P.cellsOf e = R.size) (hpos : 0 < R.size) (hR : Rd P e R) : Rd P t (sliceR E R) := by
  intro H enc W held fuel cs x hx
  rcases Go.Deep.open_slice h hx with ⟨rfl, _⟩ | ⟨a, len, cap, m, n, D, Pl, rfl, _, hl, hm, hmm, _, hel⟩
  · exact ⟨[], none, 0, 0, rfl, Sl.nil_ _ _ _ _⟩
  · have hel' : ∀ i : Fin len, ∃ y : α, ∃ cs, R.rel W 0 W.heap.size cs y ∧ ∀ j, j < R.size → W.cell? ((a.add (i.1 * R.size)).add j) = cs[j]? := by
      intro i
      obtain ⟨cs', h1, h2⟩ := hel i.1 (by rw [hmm]; have := i.2; simp; omega)
      obtain ⟨y, hy⟩ := hR H enc W held n cs' _ h2
      obtain ⟨_, _, h3⟩ := World.cells?_some h1
      rw [hc] at h3
      exact ⟨y, cs', hy, h3⟩
    refine ⟨(List.finRange len).map fun i => Classical.choose (hel' i), some a, len, cap, rfl, by simp, hl, hm, fun hp => ?_⟩
    obtain ⟨cs0, hr0, hc0⟩ := Classical.choose_spec (hel' ⟨0, hp⟩)
    have hl0 := R.len hr0
    have h00 := hc0 0 hpos
    rw [List.getElem?_eq_getElem (by omega)] at h00
    have ha0 : (a.add (0 * R.size)).add 0 = a := by simp [Addr.add]
    rw [ha0] at h00
    have hsp : a.spot = none := by
      rcases hs : a.spot with _ | s
      · rfl
      · exfalso
        unfold World.cell? at h00
        split at h00
        · simp [hs] at h00
        · simp at h00
    have hlt := World.block_lt_of_cell? W a h00
    obtain ⟨b, off, sp⟩ := a
    simp only at hsp
    subst hsp
    refine ⟨b, off, rfl, Nat.zero_le _, hlt, fun i hi => ?_⟩
    have hi' : i < len := by simpa using hi
    obtain ⟨cs, hr, hcs⟩ := Classical.choose_spec (hel' ⟨i, hi'⟩)
    refine ⟨cs, by simpa using hr, fun j hj => ?_⟩
    have hj' : j < R.size := by rw [← R.len hr]; exact hj
    have := hcs j hj'
    rw [List.getElem?_eq_getElem hj] at this
    rw [← this, Go.Deep.add_add]
    congr 1
    unfold Addr.add
    split <;> simp_all <;> omega
/-- The fields from offset o on. -/
def RdF {α : Type} (P : Program) (o : Nat) (fs : List Field) (R : Rp α) : Prop :=
  ∀ (H : Type) (enc : TypeId × Value → H) (W : World) (held : Bool) (fuel : Nat) (cs : List Value), cs.length = R.size →
    (∀ f, f ∈ fs → ∃ x, DataW.trod enc P W 0 (fun _ => true) held fuel f.type ((cs.drop (f.offset - o)).take (P.cellsOf f.type)) = some x) → ∃ a, R.rel W 0 W.heap.size cs a
theorem rdF_one {α : Type} {P : Program} {o : Nat} {f : Field} {R : Rp α} (ho : f.offset = o) (hc : P.cellsOf f.type = R.size) (hR : Rd P f.type R) : RdF P o [f] R := by
  intro H enc W held fuel cs hl hf
  obtain ⟨x, hx⟩ := hf f (List.mem_cons_self ..)
  rw [ho, Nat.sub_self, hc, List.drop_zero, List.take_of_length_le (by omega)] at hx
  exact hR H enc W held fuel cs x hx
theorem rdF_cons {α β : Type} {P : Program} {o : Nat} {f : Field} {fs : List Field} {R : Rp α} {S : Rp β} (ho : f.offset = o) (hc : P.cellsOf f.type = R.size) (hR : Rd P f.type R) (hS : RdF P (o + R.size) fs S)
    (hge : ∀ g, g ∈ fs → o + R.size ≤ g.offset) : RdF P o (f :: fs) (pairR R S) := by
  intro H enc W held fuel cs hl hf
  obtain ⟨x, hx⟩ := hf f (List.mem_cons_self ..)
  have hl' : cs.length = R.size + S.size := hl
  rw [ho, Nat.sub_self, hc, List.drop_zero] at hx
  obtain ⟨a, ha⟩ := hR H enc W held fuel _ x hx
  obtain ⟨b, hb⟩ := hS H enc W held fuel (cs.drop R.size) (by rw [List.length_drop]; omega) (fun g hg => by
    obtain ⟨y, hy⟩ := hf g (List.mem_cons_of_mem _ hg)
    refine ⟨y, ?_⟩
    rw [List.drop_drop]
    have := hge g hg
    rw [show R.size + (g.offset - (o + R.size)) = g.offset - o by omega]
    exact hy)
  exact ⟨(a, b), cs.take R.size, cs.drop R.size, (List.take_append_drop _ _).symm, ha, hb⟩
theorem rd_struct {α : Type} {P : Program} {t : TypeId} {fs : Array Field} {R : Rp α} (h : P.underlying t = some (.struct fs)) (hc : P.cellsOf t = R.size) (hF : RdF P 0 fs.toList R) : Rd P t R := by
  intro H enc W held fuel cs x hx
  obtain ⟨xs, n, _, _, hl, hxl, hg⟩ := DataW.trod_struct h hx
  refine hF H enc W held n cs (by rw [hl, hc]) fun f hf => ?_
  obtain ⟨i, hi, rfl⟩ := List.getElem_of_mem hf
  have hi' : i < fs.size := by simpa using hi
  refine ⟨xs[i]'(by omega), ?_⟩
  have := hg i _ (Array.getElem?_eq_getElem hi')
  rw [List.getElem?_eq_getElem (by omega)] at this
  simpa using this
theorem rd_arg_slice {α : Type} {P : Program} {t e E : TypeId} {R : Rp α} (hR : Rd P t (sliceR E R)) (h : P.underlying t = some (.slice e)) {W : World} {r : Reach} {b0 : Nat} {v : Value} (hv : Value.okWide P W r b0 t v)
    {H : Type} {enc : TypeId × Value → H} {d : DataW H} {p : List MemPlace} (hd : DataW.Trod enc P W 0 (fun _ => true) true t v d p) : ∃ A n c l, v = .slice A n c ∧ Sl R W 0 W.heap.size A n c l := by
  obtain ⟨a0, len, cap, rfl⟩ := okWide_slice h hv
  obtain ⟨fuel, hf⟩ := hd
  obtain ⟨l, A, n, c, h1, h2⟩ := hR H enc W true fuel _ _ hf
  simp [Value.cells] at h1
  obtain ⟨rfl, rfl, rfl⟩ := h1
  exact ⟨_, _, _, l, rfl, h2⟩
theorem rd_arg_agg {α : Type} {P : Program} {t : TypeId} {fs : Array Field} {R : Rp α} (hR : Rd P t R) (h : P.underlying t = some (.struct fs)) {W : World} {r : Reach} {b0 : Nat} {v : Value} (hv : Value.okWide P W r b0 t v)
    {H : Type} {enc : TypeId × Value → H} {d : DataW H} {p : List MemPlace} (hd : DataW.Trod enc P W 0 (fun _ => true) true t v d p) : ∃ cs a, v = .agg cs ∧ R.rel W 0 W.heap.size cs.toList a := by
  obtain ⟨cs, rfl, hsz⟩ := okWide_struct h hv
  obtain ⟨fuel, hf⟩ := hd
  obtain ⟨a, ha⟩ := hR H enc W true fuel _ _ hf
  exact ⟨cs, a, rfl, ha⟩

theorem rdInts : Rd Try.prog 37 (sliceR 3 intR) := rd_slice Try.underlying37 (by kernel_rfl) (by decide) (rd_int Try.underlying3)
theorem rdNote : Rd Try.prog 64 (pairR intR (pairR intR intR)) :=
  rd_struct Try.underlying64 (by kernel_rfl) (rdF_cons rfl (by kernel_rfl) (rd_int Try.underlying3) (rdF_cons rfl (by kernel_rfl) (rd_int Try.underlying3) (rdF_one rfl (by kernel_rfl) (rd_int Try.underlying3)) (by decide)) (by decide))
theorem rdNotes : Rd Try.prog 22 (sliceR 60 (pairR intR (pairR intR intR))) := rd_slice Try.underlying22 (by kernel_rfl) (by decide) rdNote
end Go.Proofs.Ytgoinmdnpaknpaa

/- The laws' own helpers over lists of ints. Walks. -/
set_option linter.unusedVariables false
set_option linter.unusedSimpArgs false
namespace Go.Proofs.Ytgoinmdnpaknpaa
open Go.RowKit

theorem lawsEqIntS (w : World) (lo hi lo' hi' n n' c c' : Nat) (A A' : Option Addr) (l l' : List Int) (h : Sl intR w lo hi A n c l) (h' : Sl intR w lo' hi' A' n' c' l') (hh : hi ≤ w.heap.size) (hh' : hi' ≤ w.heap.size) :
    Calls Try.prog 21 #[.slice A n c, .slice A' n' c'] w (RetB (eqB l l') w) := by
  have e1 := h.lenEq
  have e2 := h'.lenEq
  have b1 := h.lenLe
  have b2 := h'.lenLe
  by_cases hn : n = n'
  · subst hn
    have hn' : ((n : Int) != (n : Int)) = false := by simp
    go_enter Try.func21, Try.ntmps21
    go_wp2
    go_loopw [5] (fun i wr => ∃ k : Nat, k ≤ n ∧ i = .int .i64 k ∧ l.take k = l'.take k ∧ Below w.heap.size w wr) (fun i _ => n - (intOf i).toNat)
    case atStart => exact ⟨0, Nat.zero_le _, rfl, rfl, Below.refl _ _⟩
    case round =>
      obtain ⟨k, hk, rfl, ht0, hb⟩ := hrel
      have ht := Lib.hid ht0
      clear ht0
      by_cases hlt : k < n
      · obtain ⟨b, o, rfl, _, _, hc1, _⟩ := (h.below hb hh).int_at hlt
        obtain ⟨b', o', rfl, _, _, hc2, _⟩ := (h'.below hb hh').int_at hlt
        by_cases he : l[k]'(by omega) = l'[k]'(by omega)
        · have he1 : (l[k]'(by omega) != l'[k]'(by omega)) = false := by simp [he]
          have hs := Lib.hid (take_eq_snoc ht.out (by omega) (by omega) he)
          clear he
          go_wp2
          go_quiet (fail)
          go_wp2
          go_roundw
          case rel => exact ⟨k + 1, by omega, by go_num, hs.out, below_drewN hb _⟩
          case measure => simp [intOf]; omega
        · have he1 : (l[k]'(by omega) != l'[k]'(by omega)) = true := by simp [he]
          have hs := Lib.hid (eqB_false (ne_of_at (by omega) (by omega) he))
          clear he
          go_wp2
          go_quiet (fail)
          go_wp2
          go_ret
          exact RetB.mk hs.out.symm (below_drewN hb _)
      · go_wp2
        go_ret
        exact RetB.mk (eqB_true (eq_of_takes ht.out (by omega) (by omega))).symm hb
  · have hn' : ((n : Int) != (n' : Int)) = true := by simp; omega
    have hd := Lib.hid (eqB_false (x := l) (y := l') (by rintro rfl; omega))
    go_enter Try.func21, Try.ntmps21
    go_wp2
    go_ret
    exact RetB.mk hd.out.symm (Below.refl _ _)

theorem Try.infoInt : (Try.prog.info? 3).map (fun i => (i.zero, i.size, i.bytes)) = some (some (.int .i64 0), 1, 8) := by kernel_rfl
theorem lawsToIntS (w : World) (lo hi n c : Nat) (A : Option Addr) (l : List Int) (h : Sl intR w lo hi A n c l) (hh : hi ≤ w.heap.size) (hn : n ≤ 1048576) :
    Calls Try.prog 18 #[.slice A n c] w (RetOwn intR 3 l w) := by
  have e1 := h.lenEq
  obtain ⟨i0, hi0, hz0, hz1, hz2⟩ := info_parts Try.infoInt
  go_enter Try.func18, Try.ntmps18
  go_wp2_with (at_make; refine wpList_make_full _ rfl _ _ 37 rfl 0 3 i0 (.int .i64 0) 1 Try.underlying37 hi0 hz0 hz1 _ _ _ _ n rfl rfl rfl rfl (by rw [hz2]; omega) (by unfold maxLen; omega) (Nat.zero_le _) ?_)
  intro w1 hown hg
  have hF := Fill.start (R := intR) hown
  have hb0 : Below w.heap.size w w1 := (Below.refl _ _).grown hg (Nat.le_refl _) (fun k hk => by cases hk)
  go_wp2
  go_loopw [4] (fun i wr => ∃ k : Nat, k ≤ n ∧ i = .int .i64 k ∧ Fill intR wr 3 [w.heap.size] w.heap.size n (l.take k) ∧ Below w.heap.size w wr) (fun i _ => n - (intOf i).toNat)
  case atStart => exact ⟨0, Nat.zero_le _, rfl, hF, hb0⟩
  case round =>
    obtain ⟨k, hk, rfl, hF, hb⟩ := hrel
    by_cases hlt : k < n
    · obtain ⟨b, o, rfl, _, _, hc1, hi1⟩ := (h.below hb hh).int_at hlt
      have hlk : (l.take k).length = k := by simp; omega
      obtain ⟨u, hu⟩ := hF.cell (by omega) (j := 0) (by decide)
      rw [hlk, show k * intR.size + 0 = k from Nat.mul_one k] at hu
      have hfz := hF.frozen k
      have hx : intR.own wr [] [.int .i64 (l[k]'(by omega))] (l[k]'(by omega)) := ⟨rfl, rfl, hi1⟩
      have hst := hF.step (by omega) hx (by simp)
      rw [hlk, show k * intR.size = k from Nat.mul_one k, ← List.take_succ_eq_append_getElem (by omega)] at hst
      have hsb := hb.setCell (p := ⟨w.heap.size, k, none⟩) (Nat.le_refl _) (.int .i64 (l[k]'(by omega)))
      go_wp2
      go_roundw
      case rel => exact ⟨k + 1, by omega, by go_num, hst, hsb⟩
      case measure => simp [intOf]; omega
    · go_wp2
      go_ret
      exact RetOwn.mk rfl (hF.all e1 (by omega)) (by simp) hb

/-- What is left of a measure: -1 where it is overrun. -/
def RetSz (left n : Int) (w : World) (e : Ending) (w' : World) : Prop := ∃ r : Int, e = .returned (.int .i64 r) ∧ (r = -1 ∨ (0 ≤ r ∧ r = left - n)) ∧ Below w.heap.size w w'
theorem lawsSzIntS (w : World) (n c : Nat) (A : Option Addr) (left : Int) (h1 : 0 ≤ left) (h2 : left ≤ 1048576) (hn : n ≤ 9223372036854775807) :
    Calls Try.prog 67 #[.slice A n c, .int .i64 left] w (RetSz left n w) := by
  by_cases h : (n : Int) ≤ left
  · go_enter Try.func67, Try.ntmps67
    go_wp2
    go_ret
    exact ⟨_, rfl, Or.inr ⟨by omega, rfl⟩, Below.refl _ _⟩
  · have hd : decide (left - (n : Int) < 0) = true := by simp; omega
    go_enter Try.func67, Try.ntmps67
    go_wp2
    go_ret
    exact ⟨_, rfl, Or.inl rfl, Below.refl _ _⟩

/-- Marked: the array's cells are the numbers from k on; no other block has turned. -/
def RetMark (E : TypeId) (size n : Nat) (v : Value) (k : Int) (F : List Nat) (w : World) (e : Ending) (w' : World) : Prop :=
  e = .returned (.int .i64 (k + ((n * size : Nat) : Int))) ∧ w'.ownsRow 0 E size v n (mk k (n * size)) ∧ Fr F w w'
theorem lawsMarkIntS (w : World) (n c : Nat) (A : Option Addr) (xs : List Value) (k : Int) (F : List Nat) (h : w.ownsRow 0 3 1 (.slice A n c) n xs) (hF : ∀ g, A = some ⟨g, 0, none⟩ → g ∈ F) (h1 : 0 ≤ k) (h2 : k ≤ 1152921504606846976) (hn : n ≤ 1152921504606846976) :
    Calls Try.prog 26 #[.slice A n c, .int .i64 k] w (RetMark 3 1 n (.slice A n c) k F w) := by
  have hl := h.1
  go_enter Try.func26, Try.ntmps26
  go_wp2
  go_loopw [1, 5] (fun kk i wr => ∃ j : Nat, j ≤ n ∧ i = .int .i64 j ∧ kk = .int .i64 (k + (j : Int)) ∧ wr.ownsRow 0 3 1 (.slice A n c) n (mk k j ++ xs.drop j) ∧ Fr F w wr) (fun _ i _ => n - (intOf i).toNat)
  case atStart => exact ⟨0, Nat.zero_le _, rfl, by simp, by simpa [mk] using h, Fr.refl _ _⟩
  case round =>
    obtain ⟨j, hj, rfl, rfl, ho, hb⟩ := hrel
    by_cases hlt : j < n
    · obtain ⟨_, ⟨rfl, h0, _⟩ | ⟨g, rfl, _⟩⟩ := ownsRow_cases ho
      · omega
      have hc := ho.cellAt j (by omega)
      have hu : ∃ u, wr.cell? ⟨g, j, none⟩ = some u := by
        rw [hc]; exact ⟨_, List.getElem?_eq_getElem (by rw [ho.1]; omega)⟩
      clear hc
      obtain ⟨u, hu⟩ := hu
      have hfz := ho.frozenAt j
      have hst := (ho.stored j (.int .i64 (k + (j : Int)))).1
      rw [mk_set k j xs (by omega)] at hst
      have hsb := hb.setCell (p := ⟨g, j, none⟩) (hF g rfl) (.int .i64 (k + (j : Int)))
      go_wp2
      go_roundw
      case rel => exact ⟨j + 1, by omega, by go_num, by go_num, hst, hsb⟩
      case measure => simp [intOf]; omega
    · have hjn : j = n := by omega
      go_wp2
      go_ret
      refine ⟨ret_int (by rw [hjn, Nat.mul_one]), ?_, hb⟩
      have e : mk k j ++ xs.drop j = mk k (n * 1) := by rw [hjn, List.drop_of_length_le (by omega), List.append_nil, Nat.mul_one]
      rw [← e]; exact ho

theorem lawsHeldIntS (w : World) (n c : Nat) (A : Option Addr) (k : Int) (h : w.ownsRow 0 3 1 (.slice A n c) n (mk k (n * 1))) (h1 : 0 ≤ k) (h2 : k ≤ 1152921504606846976) (hn : n ≤ 1152921504606846976) :
    Calls Try.prog 36 #[.slice A n c, .int .i64 k] w fun e w' => e = .returned (.int .i64 (k + ((n * 1 : Nat) : Int))) ∧ w = w' := by
  obtain ⟨_, hA⟩ := ownsRow_cases h
  go_enter Try.func36, Try.ntmps36
  go_wp2
  go_loop [1, 5] (fun kk i => ∃ j : Nat, j ≤ n ∧ i = .int .i64 j ∧ kk = .int .i64 (k + (j : Int))) (fun _ i => n - (intOf i).toNat)
  case atStart => exact ⟨0, Nat.zero_le _, rfl, by simp⟩
  case round =>
    obtain ⟨j, hj, rfl, rfl⟩ := hrel
    by_cases hlt : j < n
    · obtain ⟨rfl, h0, _⟩ | ⟨g, rfl, _⟩ := hA
      · omega
      have hc := h.cellAt j (by omega)
      rw [mk_at k _ j (by omega)] at hc
      go_wp2
      go_round
      case rel => exact ⟨j + 1, by omega, by go_num, by go_num⟩
      case measure => simp [intOf]; omega
    · have hjn : j = n := by omega
      go_wp2
      go_ret
      exact ⟨ret_int (by omega), rfl⟩
end Go.Proofs.Ytgoinmdnpaknpaa

/- Small functions of both sides: within bounds, lists of ints. Walks. -/
set_option linter.unusedVariables false
set_option linter.unusedSimpArgs false
namespace Go.Proofs.Ytgoinmdnpaknpaa
open Go.RowKit

def inB (n lo hi : Int) : Bool := decide (lo ≤ n) && decide (n ≤ hi)
theorem inB_true {n lo hi : Int} (h : lo ≤ n ∧ n ≤ hi) : inB n lo hi = true := by simp [inB, h]
theorem inB_iff {n lo hi : Int} : inB n lo hi = true ↔ lo ≤ n ∧ n ≤ hi := by simp [inB]
theorem inB_false {n lo hi : Int} (h : ¬ (lo ≤ n ∧ n ≤ hi)) : inB n lo hi = false := by
  rw [← Bool.not_eq_true, inB_iff]; exact h
theorem specL1In (w : World) (n lo hi : Int) : Calls Try.prog 44 #[.int .i64 n, .int .i64 lo, .int .i64 hi] w fun e w' => e = .returned (.bool (inB n lo hi)) ∧ w = w' := by
  by_cases h1 : lo ≤ n <;> by_cases h2 : n ≤ hi
  all_goals
    go_enter Try.func44, Try.ntmps44
    go_wp2
    go_ret
    exact ⟨ret_bool (by simp [inB, h1, h2]), rfl⟩
theorem implWithin (w : World) (n lo hi : Int) : Calls Try.prog 45 #[.int .i64 n, .int .i64 lo, .int .i64 hi] w fun e w' => e = .returned (.bool (inB n lo hi)) ∧ w = w' := by
  by_cases h1 : lo ≤ n <;> by_cases h2 : n ≤ hi
  all_goals
    go_enter Try.func45, Try.ntmps45
    go_wp2
    go_ret
    exact ⟨ret_bool (by simp [inB, h1, h2]), rfl⟩
end Go.Proofs.Ytgoinmdnpaknpaa

/- Marks on what a datum owns: one element of an owned slice taken out and put back; the marked list. Plain lemmas, and the walks over ints and bools. -/
set_option linter.unusedVariables false
set_option linter.unusedSimpArgs false
set_option maxRecDepth 100000
namespace Go.Proofs.Ytgoinmdnpaknpaa
open Go.RowKit

def cntL {α : Type} (cnt : α → Nat) (l : List α) : Nat := (l.map cnt).sum
def mkL {α : Type} (mkf : Int → α → α) (cnt : α → Nat) : Int → List α → List α
  | _, [] => []
  | k, x :: xs => mkf k x :: mkL mkf cnt (k + (cnt x : Int)) xs
section
variable {α : Type} {mkf : Int → α → α} {cnt : α → Nat}
theorem mkL_len : ∀ (l : List α) (k : Int), (mkL mkf cnt k l).length = l.length
  | [], _ => rfl
  | x :: xs, k => by simp [mkL, mkL_len xs]
theorem mkL_snoc : ∀ (l : List α) (x : α) (k : Int), mkL mkf cnt k (l ++ [x]) = mkL mkf cnt k l ++ [mkf (k + (cntL cnt l : Int)) x]
  | [], x, k => by simp [mkL, cntL]
  | y :: ys, x, k => by
    have := mkL_snoc ys x (k + (cnt y : Int))
    simp only [List.cons_append, mkL, this]
    simp [cntL, Int.add_assoc]
theorem cntL_succ {l : List α} {k : Nat} (hk : k < l.length) : cntL cnt (l.take (k + 1)) = cntL cnt (l.take k) + cnt l[k] := sum_take_succ hk
theorem cntL_take_le (l : List α) (k : Nat) : cntL cnt (l.take k) ≤ cntL cnt l := by
  have : cntL cnt l = cntL cnt (l.take k) + cntL cnt (l.drop k) := by
    unfold cntL; rw [← List.sum_append, ← List.map_append, List.take_append_drop]
  omega
/-- One place more is marked. -/
theorem mkL_step {l : List α} {j : Nat} {k : Int} (hj : j < l.length) : (mkL mkf cnt k (l.take j) ++ l.drop j).set j (mkf (k + (cntL cnt (l.take j) : Int)) l[j]) = mkL mkf cnt k (l.take (j + 1)) ++ l.drop (j + 1) := by
  rw [List.take_succ_eq_append_getElem hj, mkL_snoc, List.drop_eq_getElem_cons hj, List.set_append_right _ _ (by rw [mkL_len, List.length_take]; omega), mkL_len, List.length_take, Nat.min_eq_left (by omega), Nat.sub_self, List.set_cons_zero]
  simp
theorem mkL_at {l : List α} {j : Nat} {k : Int} (hj : j < l.length) (h : j < (mkL mkf cnt k (l.take j) ++ l.drop j).length) : (mkL mkf cnt k (l.take j) ++ l.drop j)[j] = l[j] := by
  rw [List.getElem_append_right (by rw [mkL_len, List.length_take]; omega)]
  simp [mkL_len, List.length_take, Nat.min_eq_left (Nat.le_of_lt hj)]
end

theorem All3.put {α β γ : Type} {P Q : α → β → γ → Prop} : ∀ {xs : List α} {ys : List β} {zs : List γ} (_ : All3 P xs ys zs) (j : Nat) (hj : j < xs.length) (b : β) (c : γ), Q xs[j] b c →
    (∀ a b c, a ∈ xs.take j ++ xs.drop (j + 1) → P a b c → Q a b c) → All3 Q xs (ys.set j b) (zs.set j c)
  | x :: xs, y :: ys, z :: zs, h, 0, _, b, c, hq, ho => ⟨hq, h.2.mono fun u v t hu hp => ho u v t (by simpa using hu) hp⟩
  | x :: xs, y :: ys, z :: zs, h, j + 1, hj, b, c, hq, ho =>
    ⟨ho x y z (by simp) h.1, All3.put (xs := xs) (ys := ys) (zs := zs) h.2 j (by simpa using hj) b c hq fun u v t hu hp => ho u v t (by
      rcases List.mem_append.1 hu with hu | hu
      · exact List.mem_append_left _ (by simp [hu])
      · exact List.mem_append_right _ (by simpa using hu)) hp⟩
  | [], [], [], _, _, hj, _, _, _, _ => absurd hj (by simp)
  | [], [], _ :: _, h, _, _, _, _, _, _ => h.elim
  | [], _ :: _, [], h, _, _, _, _, _, _ => h.elim
  | [], _ :: _, _ :: _, h, _, _, _, _, _, _ => h.elim
  | _ :: _, [], [], h, _, _, _, _, _, _ => h.elim
  | _ :: _, [], _ :: _, h, _, _, _, _, _, _ => h.elim
  | _ :: _, _ :: _, [], h, _, _, _, _, _, _ => h.elim

theorem flatten_set {β : Type} {L : List (List β)} {j : Nat} (hj : j < L.length) (x : List β) : (L.set j x).flatten = (L.take j).flatten ++ x ++ (L.drop (j + 1)).flatten := by
  rw [List.set_eq_take_append_cons_drop, if_pos hj]
  simp
theorem flatten_at {β : Type} {L : List (List β)} {j : Nat} (hj : j < L.length) : L.flatten = (L.take j).flatten ++ L[j] ++ (L.drop (j + 1)).flatten := by
  have := flatten_set hj L[j]
  rwa [List.set_getElem_self] at this
theorem flatten_apart {L : List (List Nat)} (hn : L.flatten.Nodup) {j : Nat} (hj : j < L.length) {a : List Nat} (ha : a ∈ L.take j ++ L.drop (j + 1)) {k : Nat} (hk : k ∈ a) : k ∉ L[j] := by
  rw [flatten_at hj, List.append_assoc, List.nodup_append] at hn
  obtain ⟨_, h2, h3⟩ := hn
  rw [List.nodup_append] at h2
  intro hx
  rcases List.mem_append.1 ha with ha | ha
  · exact h3 k (List.mem_flatten.2 ⟨a, ha, hk⟩) k (List.mem_append_left _ hx) rfl
  · exact h2.2.2 k hx k (List.mem_flatten.2 ⟨a, ha, hk⟩) rfl

theorem OwnSl.focus {α : Type} {R : Rp α} {w : World} {e : TypeId} {F : List Nat} {A : Option Addr} {n c : Nat} {l : List α} (h : OwnSl R w e F (.slice A n c) l) (hp : 0 < R.size) {j : Nat} (hj : j < l.length) :
    ∃ g pre cs post Fj, A = some ⟨g, 0, none⟩ ∧ n = l.length ∧ pre.length = j * R.size ∧ R.own w Fj cs l[j] ∧ w.ownsRow 0 e R.size (.slice (some ⟨g, 0, none⟩) n c) n (pre ++ cs ++ post) ∧ g ∈ F ∧ g ∉ Fj ∧ (∀ k, k ∈ Fj → k ∈ F) ∧
      ∀ w' cs' x', R.own w' Fj cs' x' → w'.ownsRow 0 e R.size (.slice (some ⟨g, 0, none⟩) n c) n (pre ++ cs' ++ post) → (∀ k, k ∈ F → k ≠ g → k ∉ Fj → w'.heap[k]? = w.heap[k]?) → OwnSl R w' e F (.slice A n c) (l.set j x') := by
  obtain ⟨csl, Fs, h1, h2, rfl, hn⟩ := h
  have hl := h2.len
  obtain ⟨hnl, ⟨_, h0, _⟩ | ⟨g, rfl, _, _⟩⟩ := ownsRow_cases h1
  · omega
  subst hnl
  have hF : ((Value.slice (some ⟨g, 0, none⟩) l.length c).ownBlock.toList ++ Fs.flatten) = g :: Fs.flatten := rfl
  rw [hF] at hn ⊢
  have hg := (List.nodup_cons.1 hn).1
  have hjF : j < Fs.length := by omega
  have hjc : j < csl.length := by omega
  have hmem : ∀ k, k ∈ Fs[j] → k ∈ Fs.flatten := fun k hk => List.mem_flatten.2 ⟨_, List.getElem_mem hjF, hk⟩
  refine ⟨g, (csl.take j).flatten, csl[j], (csl.drop (j + 1)).flatten, Fs[j], rfl, rfl, ?_, h2.get j hjF hjc hj, ?_, List.mem_cons_self .., fun hx => hg (hmem g hx), fun k hk => List.mem_cons_of_mem _ (hmem k hk), ?_⟩
  · rw [flatten_len (s := R.size) (fun x hx => all3_len h2 x (List.mem_of_mem_take hx)), List.length_take, Nat.min_eq_left (by omega)]
  · rw [← flatten_at hjc]; exact h1
  · intro w' cs' x' ho hr hk
    refine ⟨csl.set j cs', Fs, ?_, All3.put h2 j hjF cs' x' ho ?_, rfl, hn⟩
    · rw [flatten_set hjc, List.length_set]; exact hr
    · intro a b d ha hown
      refine R.ownKeep (fun k hka => hk k (List.mem_cons_of_mem _ ?_) ?_ (flatten_apart (List.nodup_cons.1 hn).2 hjF ha hka)) hown
      · rcases List.mem_append.1 ha with ha | ha
        · exact List.mem_flatten.2 ⟨a, List.mem_of_mem_take ha, hka⟩
        · exact List.mem_flatten.2 ⟨a, List.mem_of_mem_drop ha, hka⟩
      · rintro rfl
        rcases List.mem_append.1 ha with ha | ha
        · exact hg (List.mem_flatten.2 ⟨a, List.mem_of_mem_take ha, hka⟩)
        · exact hg (List.mem_flatten.2 ⟨a, List.mem_of_mem_drop ha, hka⟩)

section
variable {w w' : World} {e : TypeId} {size n c g o i : Nat} {pre cs post : List Value}
theorem rowSet (h : w.ownsRow 0 e size (.slice (some ⟨g, 0, none⟩) n c) n (pre ++ cs ++ post)) (ho : pre.length = o) (hi : i < cs.length) (v : Value) : (w.setCell ⟨g, o + i, none⟩ v).ownsRow 0 e size (.slice (some ⟨g, 0, none⟩) n c) n (pre ++ cs.set i v ++ post) := by
  have := (h.stored (o + i) v).1
  subst ho
  rwa [List.append_assoc, List.set_append_right _ _ (by omega), Nat.add_sub_cancel_left, List.set_append_left _ _ hi, ← List.append_assoc] at this
theorem rowCell (h : w.ownsRow 0 e size (.slice (some ⟨g, 0, none⟩) n c) n (pre ++ cs ++ post)) (ho : pre.length = o) (hi : i < cs.length) : w.cell? ⟨g, o + i, none⟩ = some cs[i] := by
  subst ho
  have hl := h.1
  simp only [List.length_append] at hl
  rw [h.cellAt _ (by omega), List.append_assoc, List.getElem?_append_right (by omega), Nat.add_sub_cancel_left, List.getElem?_append_left hi]
  simp [hi]
end
theorem row_fr {w w' : World} {e : TypeId} {size n c g : Nat} {xs : List Value} {G : List Nat} (h : w.ownsRow 0 e size (.slice (some ⟨g, 0, none⟩) n c) n xs) (hf : Fr G w w') (hg : g ∉ G) : w'.ownsRow 0 e size (.slice (some ⟨g, 0, none⟩) n c) n xs :=
  ownsRow_keep0 h fun k hk => by
    have hlt := h.lt k hk
    simp [Value.ownBlock] at hk
    subst hk
    exact hf.block _ hlt.2 hg
theorem fr_then {G : List Nat} {a b c : World} (h : Fr G b c) (k : Fr G a b) : Fr G a c := k.trans h
theorem OwnSl.fr2 {α : Type} {R : Rp α} {w W w2 : World} {e : TypeId} {F G G2 : List Nat} {v : Value} {l : List α} (h : OwnSl R w e F v l) (hf : Fr G2 W w2) (h0 : Fr G w W) (d : ∀ k, k ∈ F → k ∉ G) (d2 : ∀ k, k ∈ F → k ∉ G2) : OwnSl R w2 e F v l := (h.fr h0 d).fr hf d2
/-- Marked: the numbers from k on lie in what the slice owns; no other block has turned. -/
def RetMk {α : Type} (R : Rp α) (E : TypeId) (mkf : Int → α → α) (cnt : α → Nat) (l : List α) (k : Int) (F : List Nat) (v : Value) (w : World) (e : Ending) (w' : World) : Prop :=
  ∃ r, e = .returned (.int .i64 r) ∧ r = k + (cntL cnt l : Int) ∧ OwnSl R w' E F v (mkL mkf cnt k l) ∧ Fr F w w'
def mkInt (k : Int) (_ : Int) : Int := k
def cntInt (_ : Int) : Nat := 1
theorem cntL_int (l : List Int) : cntL cntInt l = l.length := by
  induction l with
  | nil => rfl
  | cons x l ih => unfold cntL at ih ⊢; simp [cntInt, ih]; omega
theorem mk_mkL : ∀ (l : List Int) (k : Int), mk k l.length = (mkL mkInt cntInt k l).map (Value.int .i64)
  | [], k => rfl
  | x :: xs, k => by
    have := mk_mkL xs (k + 1)
    simp only [mkL, List.map_cons, mkInt, cntInt]
    rw [show ((1 : Nat) : Int) = 1 from rfl, ← this]
    unfold mk
    rw [List.length_cons, List.range_succ_eq_map, List.map_cons, List.map_map]
    simp [Function.comp_def]
    intro a _; omega
theorem mkInt64 : ∀ (l : List Int) (k : Int), 0 ≤ k → k + (l.length : Int) ≤ 4611686018427387904 → ∀ x, x ∈ mkL mkInt cntInt k l → I64 x
  | [], _, _, _, x, h => by simp [mkL] at h
  | y :: ys, k, h0, h1, x, h => by
    simp only [mkL, mkInt, cntInt, List.mem_cons] at h
    simp only [List.length_cons] at h1
    rcases h with rfl | h
    · exact ⟨by omega, by omega⟩
    · exact mkInt64 ys (k + 1) (by omega) (by omega) x h
theorem own_ints_F {w : World} {e : TypeId} {F : List Nat} {v : Value} {l : List Int} (h : OwnSl intR w e F v l) : F = v.ownBlock.toList := by
  obtain ⟨csl, Fs, _, h2, rfl, _⟩ := h
  have : Fs.flatten = [] := by
    rw [List.flatten_eq_nil_iff]
    intro a ha
    obtain ⟨i, hi, rfl⟩ := List.getElem_of_mem ha
    have hl := h2.len
    exact (h2.get i hi (by omega) (by omega)).1
  rw [this, List.append_nil]
theorem mkInts (w : World) (n c : Nat) (A : Option Addr) (F : List Nat) (l : List Int) (k : Int) (h : OwnSl intR w 3 F (.slice A n c) l) (h1 : 0 ≤ k) (h2 : k + (cntL cntInt l : Int) ≤ 1152921504606846976) :
    Calls Try.prog 26 #[.slice A n c, .int .i64 k] w (RetMk intR 3 mkInt cntInt l k F (.slice A n c) w) := by
  obtain ⟨xs, hx, hg, hl⟩ := h.row'
  have hF := own_ints_F h
  rw [cntL_int] at h2
  refine (lawsMarkIntS w n c A xs k F hx hg h1 (by omega) (by omega)).mono ?_
  rintro e w' ⟨rfl, ho, hf⟩
  subst hl
  rw [Nat.mul_one, mk_mkL] at ho
  refine ⟨_, rfl, by rw [cntL_int, Nat.mul_one], ?_, hf⟩
  have ho' : w'.ownsRow 0 3 1 (.slice A l.length c) (mkL mkInt cntInt k l).length ((mkL mkInt cntInt k l).map (Value.int .i64)) := by rw [mkL_len]; exact ho
  have := own_ints ho' (mkInt64 l k h1 (by omega))
  rw [hF]; exact this
end Go.Proofs.Ytgoinmdnpaknpaa

/- Marks over slices of bools. Walk. -/
set_option linter.unusedVariables false
set_option linter.unusedSimpArgs false
set_option maxRecDepth 100000
namespace Go.Proofs.Ytgoinmdnpaknpaa
open Go.RowKit

def mkBool (k : Int) (_ : Bool) : Bool := k % 3 == 0
def cntBool (_ : Bool) : Nat := 1
theorem cntL_bool (l : List Bool) : cntL cntBool l = l.length := by
  induction l with
  | nil => rfl
  | cons x l ih => unfold cntL at ih ⊢; simp [cntBool, ih]; omega
end Go.Proofs.Ytgoinmdnpaknpaa

/- Results in memory of their own, and such as are only read. Plain lemmas. -/
set_option linter.unusedVariables false
namespace Go.Proofs.Ytgoinmdnpaknpaa
open Go.RowKit
/-- The call returns a slice that reads as l, and a bool; what was there is as it was. -/
def RetSlB {α : Type} (R : Rp α) (l : List α) (b : Bool) (w : World) (e : Ending) (w' : World) : Prop :=
  ∃ A n c, e = .returned (.tuple #[.slice A n c, .bool b]) ∧ Sl R w' 0 w'.heap.size A n c l ∧ Below w.heap.size w w'
theorem RetOwnB.toSl {α : Type} {R : Rp α} {E : TypeId} {l : List α} {b : Bool} {w : World} {e : Ending} {w' : World} (h : RetOwnB R E l b w e w') : RetSlB R l b w e w' := by
  obtain ⟨F, A, n, c, rfl, ho, _, hb⟩ := h
  exact ⟨A, n, c, rfl, ho.sl, hb⟩
theorem Sl.up {α : Type} {R : Rp α} {w w' : World} {hi : Nat} {A : Option Addr} {n c : Nat} {l : List α} (h : Sl R w 0 hi A n c l) (h1 : hi ≤ w.heap.size) (hb : Below w.heap.size w w') : Sl R w' 0 w'.heap.size A n c l :=
  (h.more (Nat.le_refl _) h1).next hb
theorem cell_fr {F : List Nat} {w w' : World} {b o : Nat} {v : Value} (hf : Fr F w w') (hn : ¬ b ∈ F) (h : w.cell? ⟨b, o, none⟩ = some v) : w'.cell? ⟨b, o, none⟩ = some v := by
  have hlt := World.block_lt_of_cell? w ⟨b, o, none⟩ h
  have := hf.block b hlt hn
  rw [← h]
  unfold World.cell?
  simp only [this]
end Go.Proofs.Ytgoinmdnpaknpaa

/- Appending a slice that may be nil onto a row of the call's own. Plain lemmas. -/
set_option linter.unusedVariables false
set_option linter.unusedSimpArgs false
namespace Go.Proofs.Ytgoinmdnpaknpaa
open Go.RowKit

/-- The source of an append: m elements that read as news; nil where there are none. -/
def Src (w : World) (size : Nat) (A : Option Addr) (m : Nat) (news : List Value) : Prop :=
  news.length = m * size ∧ (A = none → m = 0) ∧ ∀ ad, A = some ad → ∀ j u, news[j]? = some u → w.cell? (ad.add j) = some u
theorem src_ints {w : World} {lo hi : Nat} {A : Option Addr} {n c : Nat} {l : List Int} (h : Sl intR w lo hi A n c l) : Src w 1 A n (l.map (Value.int .i64)) := by
  have e1 := h.lenEq
  refine ⟨by simp [e1], ?_, ?_⟩
  · rintro rfl
    rcases Nat.eq_zero_or_pos n with h0 | h0
    · exact h0
    · obtain ⟨_, _, _, h1, _⟩ := h.at_ h0; cases h1
  · rintro ad rfl j u hu
    have hj : j < n := by
      have := (List.getElem?_eq_some_iff.1 hu).1
      simpa [e1] using this
    obtain ⟨b, o, hA, _, _, hc, _⟩ := h.int_at hj
    injection hA with hA
    subst hA
    rw [List.getElem?_map, List.getElem?_eq_getElem (by omega)] at hu
    simp at hu
    subst hu
    have : (⟨b, o, none⟩ : Addr).add j = ⟨b, o + j, none⟩ := by unfold Addr.add; split <;> simp_all
    rw [this]; exact hc
section
variable {P : Program} (w : World)
theorem run_append_src (base : Nat) (t ty e : TypeId) (i : TypeInfo) (z : Value) (size bytes : Nat) (ht : P.underlying t = some (.slice e)) (hi : P.info? e = some i) (hz : i.zero = some z)
    (hsize : i.size = size) (hby : i.bytes = bytes) (hzs : z.cells.size = size) (hsz : 0 < size) (v : Value) (n : Nat) (xs : List Value) (hown : w.ownsRow base e size v n xs)
    (A : Option Addr) (m c : Nat) (news : List Value) (hr : Src w size A m news) (h1 : ∀ u ∈ news, u.oneCell' = true) (h63 : n + m ≤ maxLen) (hbytes : (n + m) * bytes ≤ 140737488355328) (hbase : base ≤ w.heap.size) :
    ∃ v' w', (Builtin.append_ #[t, t] ty #[v, .slice A m c]).run P w = .ok v' w' ∧ w'.ownsRow base e size v' (n + m) (xs ++ news) ∧ w.grownBy w' v.ownBlock ∧ (v'.ownBlock = v.ownBlock ∨ v'.ownBlock = some w.heap.size) := by
  rcases A with _ | ad
  · obtain rfl := hr.2.1 rfl
    obtain rfl : news = [] := List.eq_nil_of_length_eq_zero (by simpa using hr.1)
    refine ⟨v, w, ?_, by simpa using hown, World.grownBy.refl w _, .inl rfl⟩
    rcases hown.2 with ⟨rfl, rfl⟩ | ⟨g, cap, cur, rfl, _, _, hnc, _⟩
    · simp [Builtin.append_, run_underlying ht, sizeOf, typeInfo, hi, Builtin.lenOf, Builtin.firstCells]
    · simp [Builtin.append_, run_underlying ht, sizeOf, typeInfo, hi, Builtin.lenOf, Builtin.firstCells, hnc, storeCells]
  · obtain ⟨v', w', hrun, h2, h3, _, h5⟩ := run_append_own_at (P := P) w base t ty e i z size bytes ht hi hz hsize hby hzs hsz v n xs hown ad m c news hr.1 (hr.2.2 ad rfl) h1 h63 hbytes hbase
    exact ⟨v', w', hrun, h2, h3, h5⟩
theorem wp_append_src {o : Oper} {a : Act} {K : Act → World → Prop} {Q : Exit → Act → World → Prop} (s x : Operand) (t : TypeId)
    (ho : o.op = .call { callee := .builtin .append, args := #[s, x], argTypes := #[t, t] })
    (base : Nat) (e : TypeId) (i : TypeInfo) (z : Value) (size bytes : Nat) (ht : P.underlying t = some (.slice e)) (hi : P.info? e = some i) (hz : i.zero = some z)
    (hsize : i.size = size) (hby : i.bytes = bytes) (hzs : z.cells.size = size) (hsz : 0 < size) (v : Value) (n : Nat) (xs : List Value) (hs : a.eval s = v) (hown : w.ownsRow base e size v n xs)
    (A : Option Addr) (m c : Nat) (news : List Value) (hx : a.eval x = .slice A m c) (hr : Src w size A m news) (h1 : ∀ u ∈ news, u.oneCell' = true) (h63 : n + m ≤ maxLen) (hbytes : (n + m) * bytes ≤ 140737488355328) (hbase : base ≤ w.heap.size)
    (h : ∀ v' w', w'.ownsRow base e size v' (n + m) (xs ++ news) → w.grownBy w' v.ownBlock → (v'.ownBlock = v.ownBlock ∨ v'.ownBlock = some w.heap.size) → K (a.put o.dst v') w') : o.wp P a w K Q := by
  obtain ⟨v', w', hrun, h2, h3, h4⟩ := run_append_src (P := P) w base t o.type e i z size bytes ht hi hz hsize hby hzs hsz v n xs hown A m c news hr h1 h63 hbytes hbase
  unfold Oper.wp execOp
  simp only [ho, resolve, invoke, builtin, Sem.run_bind, Sem.run_pure, Result.andThen_ok, List.map_toArray, List.map_cons, List.map_nil, hs, hx, hrun]
  exact h v' w' h2 h3 h4
theorem wpList_append_src {ops : Array Oper} {rest : List Oper} {o : Oper} {a : Act} {Q : Exit → Act → World → Prop} (hgd : o.guard = none) (s x : Operand) (t : TypeId)
    (ho : o.op = .call { callee := .builtin .append, args := #[s, x], argTypes := #[t, t] })
    (base : Nat) (e : TypeId) (i : TypeInfo) (z : Value) (size bytes : Nat) (ht : P.underlying t = some (.slice e)) (hi : P.info? e = some i) (hz : i.zero = some z)
    (hsize : i.size = size) (hby : i.bytes = bytes) (hzs : z.cells.size = size) (hsz : 0 < size) (v : Value) (n : Nat) (xs : List Value) (hs : a.eval s = v) (hown : w.ownsRow base e size v n xs)
    (A : Option Addr) (m c : Nat) (news : List Value) (hx : a.eval x = .slice A m c) (hr : Src w size A m news) (h1 : ∀ u ∈ news, u.oneCell' = true) (h63 : n + m ≤ maxLen) (hbytes : (n + m) * bytes ≤ 140737488355328) (hbase : base ≤ w.heap.size)
    (h : ∀ v' w', w'.ownsRow base e size v' (n + m) (xs ++ news) → w.grownBy w' v.ownBlock → (v'.ownBlock = v.ownBlock ∨ v'.ownBlock = some w.heap.size) → wpList P ops Q rest (a.put o.dst v') w') : wpList P ops Q (o :: rest) a w :=
  wpList_plain hgd fun _ hK => wp_append_src w s x t ho base e i z size bytes ht hi hz hsize hby hzs hsz v n xs hs hown A m c news hx hr h1 h63 hbytes hbase fun v' w' h2 h3 h4 => hK _ _ (h v' w' h2 h3 h4)
theorem step_append_src {ops : Array Oper} {o : Oper} {a : Act} {K : Act → World → Prop} {Q : Exit → Act → World → Prop} {E : Prop} (hgd : o.guard = none) (s x : Operand) (t : TypeId)
    (ho : o.op = .call { callee := .builtin .append, args := #[s, x], argTypes := #[t, t] })
    (base : Nat) (e : TypeId) (i : TypeInfo) (z : Value) (size bytes : Nat) (ht : P.underlying t = some (.slice e)) (hi : P.info? e = some i) (hz : i.zero = some z)
    (hsize : i.size = size) (hby : i.bytes = bytes) (hzs : z.cells.size = size) (hsz : 0 < size) (v : Value) (n : Nat) (xs : List Value) (hs : a.eval s = v) (hown : w.ownsRow base e size v n xs)
    (A : Option Addr) (m c : Nat) (news : List Value) (hx : a.eval x = .slice A m c) (hr : Src w size A m news) (h1 : ∀ u ∈ news, u.oneCell' = true) (h63 : n + m ≤ maxLen) (hbytes : (n + m) * bytes ≤ 140737488355328) (hbase : base ≤ w.heap.size)
    (h : ∀ v' w', w'.ownsRow base e size v' (n + m) (xs ++ news) → w.grownBy w' v.ownBlock → (v'.ownBlock = v.ownBlock ∨ v'.ownBlock = some w.heap.size) → K (a.put o.dst v') w') :
    if Region.wanted o (yielded ops a.tmps) = true then Oper.wp P o a w K Q else E := by
  have hw : Region.wanted o (yielded ops a.tmps) = true := by simp [Region.wanted, hgd]
  rw [if_pos hw]
  exact wp_append_src w s x t ho base e i z size bytes ht hi hz hsize hby hzs hsz v n xs hs hown A m c news hx hr h1 h63 hbytes hbase h
end
theorem ints_oneCell (l : List Int) : ∀ u ∈ l.map (Value.int .i64), u.oneCell' = true := by
  intro u hu; obtain ⟨x, _, rfl⟩ := List.mem_map.1 hu; rfl
end Go.Proofs.Ytgoinmdnpaknpaa

/- One element more, appended to a slice that owns what its elements reach. Plain lemmas. -/
set_option linter.unusedVariables false
set_option linter.unusedSimpArgs false
namespace Go.Proofs.Ytgoinmdnpaknpaa
open Go.RowKit

theorem All3.same {α β γ : Type} {P : α → β → γ → Prop} {xs : List α} {ys : List β} {zs : List γ} (h : All3 P xs ys zs) : ys.length = zs.length := h.len.2
/-- A datum that reads within a span of blocks of its own: the span is what it owns. -/
def spanR {α : Type} (R : Rp α) : Rp α where
  size := R.size
  rel := R.rel
  own := fun w F cs x => ∃ lo hi, lo < hi ∧ hi ≤ w.heap.size ∧ F = List.range' lo (hi - lo) ∧ R.rel w lo hi cs x
  len := R.len
  ownLen := fun ⟨_, _, _, _, _, h⟩ => R.len h
  keep := R.keep
  ownKeep := fun {w w'} {F cs x} hk ⟨lo, hi, h1, h2, e, h⟩ => by
    have hb : ∀ k, lo ≤ k → k < hi → w'.heap[k]? = w.heap[k]? := fun k ha hb => hk k (by rw [e, List.mem_range'_1]; omega)
    have h3 : hi ≤ w'.heap.size := by
      have h4 := hb (hi - 1) (by omega) (by omega)
      rw [Array.getElem?_eq_getElem (by omega : hi - 1 < w.heap.size)] at h4
      have := (Array.getElem?_eq_some_iff.1 h4).1
      omega
    exact ⟨lo, hi, h1, h3, e, R.keep (Nat.le_refl _) (Nat.le_refl _) hb h⟩
  ownRel := fun ⟨lo, hi, h1, h2, e, h⟩ hF => by
    have a := hF lo (by rw [e, List.mem_range'_1]; omega)
    have b := hF (hi - 1) (by rw [e, List.mem_range'_1]; omega)
    exact R.keep (by omega) (by omega) (fun _ _ _ => rfl) h
  ownLt := fun ⟨lo, hi, h1, h2, e, h⟩ k hk => by rw [e, List.mem_range'_1] at hk; omega
  ownNodup := fun ⟨lo, hi, h1, h2, e, h⟩ => by rw [e]; exact List.nodup_range'
theorem spanR_own {α : Type} {R : Rp α} {w : World} {lo hi : Nat} {cs : List Value} {x : α} (h1 : lo < hi) (h2 : hi ≤ w.heap.size) (h : R.rel w lo hi cs x) : (spanR R).own w (List.range' lo (hi - lo)) cs x := ⟨lo, hi, h1, h2, rfl, h⟩
theorem span_sl {α : Type} {R : Rp α} {w : World} {lo hi : Nat} {A : Option Addr} {n c : Nat} {l : List α} (h : Sl (spanR R) w lo hi A n c l) : Sl R w lo hi A n c l := h
theorem mem_span {lo hi k : Nat} : k ∈ List.range' lo (hi - lo) ↔ lo ≤ k ∧ k < hi := by rw [List.mem_range'_1]; omega
/-- What an append onto the slice's row leaves. -/
theorem OwnSl.grow {α : Type} {R : Rp α} {w : World} {e : TypeId} {F : List Nat} {v : Value} {l : List α} (h : OwnSl R w e F v l) :
    ∃ xs, w.ownsRow 0 e R.size v l.length xs ∧ ∀ (w' : World) (v' : Value) (cs : List Value) (x : α) (Fx : List Nat), w'.ownsRow 0 e R.size v' (l.length + 1) (xs ++ cs) → w.grownBy w' v.ownBlock →
      (v'.ownBlock = v.ownBlock ∨ v'.ownBlock = some w.heap.size) → R.own w Fx cs x → (∀ k, k ∈ Fx → k ∉ F) → ∃ F', OwnSl R w' e F' v' (l ++ [x]) ∧ ∀ k, k ∈ F' → k ∈ F ∨ k ∈ Fx ∨ k = w.heap.size := by
  obtain ⟨csl, Fs, h1, h2, rfl, hn⟩ := h
  refine ⟨csl.flatten, h1, fun w' v' cs x Fx hr hg hv hx hd => ?_⟩
  have hlt : ∀ k, k ∈ Fs.flatten → k < w.heap.size := fun k hk => OwnSl.lt (R := R) ⟨csl, Fs, h1, h2, rfl, hn⟩ k (List.mem_append_right _ hk)
  have hxl := R.ownLt hx
  have hn' := hn
  rw [List.nodup_append] at hn'
  obtain ⟨n1, n2, n3⟩ := hn'
  have hb : ∀ k, k < w.heap.size → (k ∈ Fs.flatten ∨ k ∈ Fx) → w'.heap[k]? = w.heap[k]? := fun k hk ho => hg.block k hk (fun e => by
    rcases ho with ho | ho
    · exact n3 k (by rw [← e]; simp) k ho rfl
    · exact hd k ho (List.mem_append_left _ (by rw [← e]; simp)))
  refine ⟨v'.ownBlock.toList ++ (Fs ++ [Fx]).flatten, ⟨csl ++ [cs], Fs ++ [Fx], ?_, ?_, rfl, ?_⟩, ?_⟩
  · rw [List.length_append, List.length_singleton, List.flatten_append, List.flatten_singleton]; exact hr
  · refine All3.snoc ?_ (h2.mono fun a b c ha h => R.ownKeep (fun k hka => ?_) h)
    · exact R.ownKeep (fun k hk => hb k (hxl k hk) (Or.inr hk)) hx
    · have hm : k ∈ Fs.flatten := List.mem_flatten.2 ⟨a, ha, hka⟩
      exact hb k (hlt k hm) (Or.inl hm)
  · rw [List.flatten_append, List.flatten_singleton, List.nodup_append]
    refine ⟨by cases v'.ownBlock <;> simp, ?_, ?_⟩
    · rw [List.nodup_append]
      exact ⟨n2, R.ownNodup hx, fun a ha b hbm hab => hd b hbm (List.mem_append_right _ (hab ▸ ha))⟩
    · intro a ha b hbm hab
      subst hab
      have ha' : v'.ownBlock = some a := by simpa using ha
      have hb' : a < w.heap.size := by
        rcases List.mem_append.1 hbm with hbm | hbm
        · exact hlt a hbm
        · exact hxl a hbm
      rcases hv with hv | hv
      · rw [hv] at ha'
        rcases List.mem_append.1 hbm with hbm | hbm
        · exact n3 a (by simp [ha']) a hbm rfl
        · exact hd a hbm (List.mem_append_left _ (by simp [ha']))
      · rw [hv] at ha'; injection ha' with ha'; omega
  · intro k hk
    rw [List.flatten_append, List.flatten_singleton] at hk
    rcases List.mem_append.1 hk with hk | hk
    · have hk' : v'.ownBlock = some k := by simpa using hk
      rcases hv with hv | hv
      · rw [hv] at hk'; exact Or.inl (List.mem_append_left _ (by simp [hk']))
      · rw [hv] at hk'; injection hk' with hk'; exact Or.inr (Or.inr hk'.symm)
    · rcases List.mem_append.1 hk with hk | hk
      · exact Or.inl (List.mem_append_right _ hk)
      · exact Or.inr (Or.inl hk)
section
variable {P : Program} (w : World)
theorem wp_own1 {α : Type} {o : Oper} {a : Act} {K : Act → World → Prop} {Q : Exit → Act → World → Prop} (s x : Operand) (t : TypeId)
    (ho : o.op = .call { callee := .builtin .append, args := #[s, x], argTypes := #[t, t] })
    (R : Rp α) (e : TypeId) (i : TypeInfo) (z : Value) (size bytes : Nat) (ht : P.underlying t = some (.slice e)) (hi : P.info? e = some i) (hz : i.zero = some z)
    (hsize : i.size = size) (hby : i.bytes = bytes) (hzs : z.cells.size = size) (hRs : R.size = size) (hsz : 0 < size) (v : Value) (n : Nat) (l : List α) (F : List Nat) (hs : a.eval s = v) (hn : l.length = n) (hown : OwnSl R w e F v l)
    (ad : Addr) (c : Nat) (cs : List Value) (d : α) (Fx : List Nat) (hx : a.eval x = .slice (some ad) 1 c) (hnews : ∀ j u, cs[j]? = some u → w.cell? (ad.add j) = some u) (hd : R.own w Fx cs d) (h1 : ∀ u ∈ cs, u.oneCell' = true) (hdj : ∀ k, k ∈ Fx → k ∉ F)
    (h63 : n + 1 ≤ 1099511627776) (hbytes : bytes ≤ 120)
    (h : ∀ v' w' F', OwnSl R w' e F' v' (l ++ [d]) → w.grownBy w' v.ownBlock → (∀ k, k ∈ F' → k ∈ F ∨ k ∈ Fx ∨ k = w.heap.size) → K (a.put o.dst v') w') : o.wp P a w K Q := by
  subst hn hRs
  obtain ⟨xs, hr, hgr⟩ := hown.grow
  have hb2 : (l.length + 1) * bytes ≤ 140737488355328 := Nat.le_trans (Nat.mul_le_mul h63 hbytes) (by decide)
  obtain ⟨v', w', hrun, h2, h3, _, h5⟩ := run_append_own_at (P := P) w 0 t o.type e i z _ bytes ht hi hz hsize hby hzs hsz v l.length xs hr ad 1 c cs (by rw [R.ownLen hd, Nat.one_mul]) hnews h1 (by unfold maxLen; omega) hb2 (Nat.zero_le _)
  obtain ⟨F', ho', hF'⟩ := hgr w' v' cs d Fx h2 h3 h5 hd hdj
  unfold Oper.wp execOp
  simp only [ho, resolve, invoke, builtin, Sem.run_bind, Sem.run_pure, Result.andThen_ok, List.map_toArray, List.map_cons, List.map_nil, hs, hx, hrun]
  exact h v' w' F' ho' h3 hF'
theorem wpl_own1 {α : Type} {ops : Array Oper} {rest : List Oper} {o : Oper} {a : Act} {Q : Exit → Act → World → Prop} (hgd : o.guard = none) (s x : Operand) (t : TypeId)
    (ho : o.op = .call { callee := .builtin .append, args := #[s, x], argTypes := #[t, t] })
    (R : Rp α) (e : TypeId) (i : TypeInfo) (z : Value) (size bytes : Nat) (ht : P.underlying t = some (.slice e)) (hi : P.info? e = some i) (hz : i.zero = some z)
    (hsize : i.size = size) (hby : i.bytes = bytes) (hzs : z.cells.size = size) (hRs : R.size = size) (hsz : 0 < size) (v : Value) (n : Nat) (l : List α) (F : List Nat) (hs : a.eval s = v) (hn : l.length = n) (hown : OwnSl R w e F v l)
    (ad : Addr) (c : Nat) (cs : List Value) (d : α) (Fx : List Nat) (hx : a.eval x = .slice (some ad) 1 c) (hnews : ∀ j u, cs[j]? = some u → w.cell? (ad.add j) = some u) (hd : R.own w Fx cs d) (h1 : ∀ u ∈ cs, u.oneCell' = true) (hdj : ∀ k, k ∈ Fx → k ∉ F)
    (h63 : n + 1 ≤ 1099511627776) (hbytes : bytes ≤ 120)
    (h : ∀ v' w' F', OwnSl R w' e F' v' (l ++ [d]) → w.grownBy w' v.ownBlock → (∀ k, k ∈ F' → k ∈ F ∨ k ∈ Fx ∨ k = w.heap.size) → wpList P ops Q rest (a.put o.dst v') w') : wpList P ops Q (o :: rest) a w :=
  wpList_plain hgd fun _ hK => wp_own1 w s x t ho R e i z size bytes ht hi hz hsize hby hzs hRs hsz v n l F hs hn hown ad c cs d Fx hx hnews hd h1 hdj h63 hbytes fun v' w' F' h2 h3 h4 => hK _ _ (h v' w' F' h2 h3 h4)
theorem step_own1 {α : Type} {ops : Array Oper} {o : Oper} {a : Act} {K : Act → World → Prop} {Q : Exit → Act → World → Prop} {E : Prop} (hgd : o.guard = none) (s x : Operand) (t : TypeId)
    (ho : o.op = .call { callee := .builtin .append, args := #[s, x], argTypes := #[t, t] })
    (R : Rp α) (e : TypeId) (i : TypeInfo) (z : Value) (size bytes : Nat) (ht : P.underlying t = some (.slice e)) (hi : P.info? e = some i) (hz : i.zero = some z)
    (hsize : i.size = size) (hby : i.bytes = bytes) (hzs : z.cells.size = size) (hRs : R.size = size) (hsz : 0 < size) (v : Value) (n : Nat) (l : List α) (F : List Nat) (hs : a.eval s = v) (hn : l.length = n) (hown : OwnSl R w e F v l)
    (ad : Addr) (c : Nat) (cs : List Value) (d : α) (Fx : List Nat) (hx : a.eval x = .slice (some ad) 1 c) (hnews : ∀ j u, cs[j]? = some u → w.cell? (ad.add j) = some u) (hd : R.own w Fx cs d) (h1 : ∀ u ∈ cs, u.oneCell' = true) (hdj : ∀ k, k ∈ Fx → k ∉ F)
    (h63 : n + 1 ≤ 1099511627776) (hbytes : bytes ≤ 120)
    (h : ∀ v' w' F', OwnSl R w' e F' v' (l ++ [d]) → w.grownBy w' v.ownBlock → (∀ k, k ∈ F' → k ∈ F ∨ k ∈ Fx ∨ k = w.heap.size) → K (a.put o.dst v') w') :
    if Region.wanted o (yielded ops a.tmps) = true then Oper.wp P o a w K Q else E := by
  have hw : Region.wanted o (yielded ops a.tmps) = true := by simp [Region.wanted, hgd]
  rw [if_pos hw]
  exact wp_own1 w s x t ho R e i z size bytes ht hi hz hsize hby hzs hRs hsz v n l F hs hn hown ad c cs d Fx hx hnews hd h1 hdj h63 hbytes h
end
/-- A row's world has grown: old blocks that are not the row's stand. -/
theorem grown_fr {w w' : World} {v : Value} (hg : w.grownBy w' v.ownBlock) : Fr v.ownBlock.toList w w' := ⟨hg.os, hg.tape, hg.output, hg.size, fun k hk hn => hg.block k hk (fun e => hn (by rw [← e]; simp))⟩
theorem cells_new (w : World) (cs : List Value) (t : TypeId) {g : Nat} (hg : w.heap.size = g) : ∀ j u, cs[j]? = some u → (w.alloc (.cells cs.toArray t)).cell? ((⟨g, 0, none⟩ : Addr).add j) = some u := by
  intro j u hj
  subst hg
  have hadd : (⟨w.heap.size, 0, none⟩ : Addr).add j = ⟨w.heap.size, j, none⟩ := by unfold Addr.add; simp; omega
  rw [hadd, cell_of_row _ _ _ _ _ _ (heap_alloc_new w _)]
  simpa using hj
theorem below_grown0 {B : Nat} {a w w' : World} {v : Value} (hb : Below B a w) (hg : w.grownBy w' v.ownBlock) (hB : B ≤ w.heap.size) (hv : ∀ g, v.ownBlock = some g → B ≤ g) : Below B a w' := hb.grown hg hB hv
theorem OwnSl.ownB {α : Type} {R : Rp α} {w : World} {e : TypeId} {F : List Nat} {v : Value} {l : List α} (h : OwnSl R w e F v l) : ∀ g, v.ownBlock = some g → g ∈ F := by
  obtain ⟨csl, Fs, _, _, rfl, _⟩ := h
  exact fun g hg => List.mem_append_left _ (by rw [hg]; simp)
end Go.Proofs.Ytgoinmdnpaknpaa

/- Where the first of a kind stands in a list. Plain lemmas. -/
namespace Go.Proofs.Ytgoinmdnpaknpaa
open Go.RowKit
/-- The place of the first that says yes, or -1. -/
def idxW {α : Type} (p : α → Bool) (l : List α) : Int := match l.findIdx? p with | some k => (k : Int) | none => -1
def RetIx (r : Int) (w : World) (e : Ending) (w' : World) : Prop := e = .returned (.int .i64 r) ∧ Below w.heap.size w w'
theorem rfl_ix {a b : Int} (h : a = b) : Ending.returned (.int .i64 a) = .returned (.int .i64 b) := by rw [h]
theorem idxW_at {α : Type} {p : α → Bool} {l : List α} {k : Nat} (hk : k < l.length) (h : (l.take k).any p = false) (hp : p l[k] = true) : idxW p l = (k : Int) := by
  have : l.findIdx? p = some k := by
    rw [List.findIdx?_eq_some_iff_getElem]
    refine ⟨hk, hp, fun j hj => ?_⟩
    rw [List.any_eq_false] at h
    exact h _ (List.mem_take_iff_getElem.2 ⟨j, by omega, rfl⟩)
  rw [idxW, this]
theorem idxW_none {α : Type} {p : α → Bool} {l : List α} (h : l.any p = false) : idxW p l = -1 := by
  have : l.findIdx? p = none := by
    rw [List.findIdx?_eq_none_iff]
    intro x hx
    rw [List.any_eq_false] at h
    simpa using h x hx
  rw [idxW, this]
theorem idxW_any {α : Type} (p : α → Bool) (l : List α) : decide (0 ≤ idxW p l) = l.any p := by
  unfold idxW
  rcases h : l.findIdx? p with _ | k
  · rw [List.findIdx?_eq_none_iff] at h
    simp only
    rw [eq_comm, show (decide ((0 : Int) ≤ -1)) = false from rfl, List.any_eq_false]
    intro x hx; simpa using h x hx
  · rw [List.findIdx?_eq_some_iff_getElem] at h
    obtain ⟨hk, hp, _⟩ := h
    simp only
    rw [show decide ((0 : Int) ≤ (k : Int)) = true by simp, eq_comm, List.any_eq_true]
    exact ⟨_, List.getElem_mem hk, hp⟩
theorem any_take_succ {α : Type} {p : α → Bool} {l : List α} {k : Nat} (h : (l.take k).any p = false) (hk : k < l.length) (hp : p l[k] = false) : (l.take (k + 1)).any p = false := by
  rw [List.take_succ_eq_append_getElem hk, List.any_append, h]; simpa using hp
theorem any_true {α : Type} {p : α → Bool} {l : List α} {k : Nat} (hk : k < l.length) (hp : p l[k] = true) : l.any p = true := by
  rw [List.any_eq_true]; exact ⟨_, List.getElem_mem hk, hp⟩
theorem any_not_all {α : Type} (p : α → Bool) (l : List α) : (!(l.any fun x => !p x)) = l.all p := by
  induction l with
  | nil => rfl
  | cons x l ih => rw [List.any_cons, List.all_cons, Bool.not_or, ih, Bool.not_not]
theorem all_take_succ {α : Type} {p : α → Bool} {l : List α} {k : Nat} (h : (l.take k).all p = true) (hk : k < l.length) (hp : p l[k] = true) : (l.take (k + 1)).all p = true := by
  rw [List.take_succ_eq_append_getElem hk, List.all_append, h]; simpa using hp
theorem all_false {α : Type} {p : α → Bool} {l : List α} {k : Nat} (hk : k < l.length) (hp : p l[k] = false) : l.all p = false := by
  rw [List.all_eq_false]; exact ⟨_, List.getElem_mem hk, by simpa using hp⟩
end Go.Proofs.Ytgoinmdnpaknpaa

/- slices.IndexFunc, slices.ContainsFunc over slices of int. Printed by anygen.py. Walks. -/
set_option linter.unusedVariables false
set_option linter.unusedSimpArgs false
set_option maxRecDepth 100000
namespace Go.Proofs.Ytgoinmdnpaknpaa
open Go.RowKit

theorem idxFuncInt (g : FuncId) (cap : Array Value) (p : Int → Bool) (w : World) (lo hi n c : Nat) (A : Option Addr) (l : List Int) (h : Sl intR w lo hi A n c l) (hh : hi ≤ w.heap.size)
    (eg : ∀ (args : Array Value) (w : World), (callFunc g args).run Try.prog w = .ok (.enter g args) w)
    (hp : ∀ (W : World) (x0 : Int), x0 ∈ l → Below w.heap.size w W → I64 x0 → Calls Try.prog g (#[.int .i64 x0] ++ cap) W (RetB (p x0) W)) :
    Calls Try.prog 82 #[.slice A n c, .func (.func g) #[] cap] w (RetIx (idxW p l) w) := by
  have e1 := h.lenEq
  have b1 := h.lenLe
  have HP := Lib.hid hp
  clear hp
  go_enter Try.func82, Try.ntmps82
  go_wp2
  go_loopw [8] (fun i wr => ∃ k : Nat, k ≤ n ∧ i = .int .i64 k ∧ (l.take k).any p = false ∧ Below w.heap.size w wr) (fun i _ => n - (intOf i).toNat)
  case atStart => exact ⟨0, Nat.zero_le _, rfl, rfl, Below.refl _ _⟩
  case round =>
    obtain ⟨k, hk, rfl, ht0, hb⟩ := hrel
    have ht := Lib.hid ht0
    clear ht0
    by_cases hlt : k < n
    · obtain ⟨b, o, rfl, _, _, hc1, i0⟩ := (h.below hb hh).int_at hlt
      generalize hl0 : l[k]'(by omega) = x0 at hc1 i0
      have hmem : x0 ∈ l := hl0 ▸ List.getElem_mem (l := l) (n := k) (by omega)
      have hok := Lib.hid (fun (hp : p x0 = false) => any_take_succ (p := p) ht.out (by omega) (by rw [hl0]; exact hp))
      have hno := Lib.hid (fun (hp : p x0 = true) => idxW_at (p := p) (l := l) (k := k) (by omega) ht.out (by rw [hl0]; exact hp))
      have HC := Lib.hid (fun W (hW : Below wr.heap.size wr W) => HP.out W x0 hmem (below_then hb hW) i0)
      clear hl0 hmem
      go_wp2_with fail
      refine (HC.out _ (by exact belA)).mono ?_
      rintro e w2 ⟨rfl, hb2⟩
      have hb3 := below_then hb (show Below wr.heap.size wr w2 by exact belA)
      clear HC
      by_cases hpx : p x0 = true
      · have hs := Lib.hid (hno.out hpx)
        go_wp2_with fail
        go_ret
        exact ⟨rfl_ix hs.out.symm, hb3⟩
      · have hpx : p x0 = false := by simpa using hpx
        have hs := Lib.hid (hok.out hpx)
        go_wp2_with fail
        go_roundw
        case rel => exact ⟨k + 1, by omega, by go_num, hs.out, hb3⟩
        case measure => simp [intOf]; omega
    · have hs := Lib.hid (idxW_none (p := p) (l := l) (by have := ht.out; rwa [List.take_of_length_le (by omega)] at this))
      go_wp2_with fail
      go_ret
      exact ⟨rfl_ix hs.out.symm, hb⟩
theorem conFuncInt (g : FuncId) (cap : Array Value) (p : Int → Bool) (w : World) (lo hi n c : Nat) (A : Option Addr) (l : List Int) (h : Sl intR w lo hi A n c l) (hh : hi ≤ w.heap.size)
    (eg : ∀ (args : Array Value) (w : World), (callFunc g args).run Try.prog w = .ok (.enter g args) w)
    (hp : ∀ (W : World) (x0 : Int), x0 ∈ l → Below w.heap.size w W → I64 x0 → Calls Try.prog g (#[.int .i64 x0] ++ cap) W (RetB (p x0) W)) :
    Calls Try.prog 57 #[.slice A n c, .func (.func g) #[] cap] w (RetB (l.any p) w) := by
  have HP := Lib.hid hp
  have EG := Lib.hid eg
  have e1 := h.lenEq
  have b1 := h.lenLe
  clear hp eg
  have hq := Lib.hid (idxW_any p l)
  obtain ⟨v, hv0⟩ : ∃ v, v = idxW p l := ⟨_, rfl⟩
  have hv := Lib.hid hv0
  clear hv0
  go_enter Try.func57, Try.ntmps57
  go_wp2_with fail
  refine (idxFuncInt g cap p _ lo hi n c A l h hh EG.out HP.out).mono ?_
  rintro e w2 ⟨rfl, hb⟩
  rw [← hv.out]
  go_wp2_with fail
  go_ret
  exact RetB.mk (by rw [← hq.out, ← hv.out]) hb
end Go.Proofs.Ytgoinmdnpaknpaa

/- How many marks. Printed by ocgen.py. -/
namespace Go.Proofs.Ytgoinmdnpaknpaa
theorem cntInt_le (l : List Int) : cntL cntInt l ≤ 16 * l.length := by
  induction l with
  | nil => simp [cntL]
  | cons x l ih => simp only [cntL, List.map_cons, List.sum_cons, List.length_cons] at *; simp only [cntInt] at *; omega
end Go.Proofs.Ytgoinmdnpaknpaa

/- How many marks. Printed by ocgen.py. -/
namespace Go.Proofs.Ytgoinmdnpaknpaa
theorem cntBool_le (l : List Bool) : cntL cntBool l ≤ 16 * l.length := by
  induction l with
  | nil => simp [cntL]
  | cons x l ih => simp only [cntL, List.map_cons, List.sum_cons, List.length_cons] at *; simp only [cntBool] at *; omega
end Go.Proofs.Ytgoinmdnpaknpaa

/- Marks read back: int. Printed by heldgen.py. Walks. -/
set_option linter.unusedVariables false
set_option linter.unusedSimpArgs false
set_option linter.unnecessarySimpa false
set_option maxRecDepth 100000
namespace Go.Proofs.Ytgoinmdnpaknpaa
open Go.RowKit

theorem mkL_get {α : Type} {mkf : Int → α → α} {cnt : α → Nat} {l : List α} {j : Nat} {k : Int} (hj : j < l.length) : (mkL mkf cnt k l)[j]'(by rw [mkL_len]; exact hj) = mkf (k + (cntL cnt (l.take j) : Int)) l[j] := by
  induction l generalizing j k with
  | nil => simp at hj
  | cons x l ih =>
    cases j with
    | zero => simp [mkL, cntL]
    | succ j =>
      simp only [mkL, List.getElem_cons_succ, List.take_succ_cons]
      rw [ih (by simpa using hj)]
      simp [cntL, Int.add_assoc]
/-- What a mark is read back to: the next mark. -/
def RetHd (N : Int) (w : World) (e : Ending) (w' : World) : Prop := ∃ r, e = .returned (.int .i64 r) ∧ r = N ∧ Below w.heap.size w w'

set_option maxHeartbeats 2000000 in
theorem hdInts (w : World) (lo hi n c : Nat) (A : Option Addr) (l : List Int) (k : Int) (h : Sl intR w lo hi A n c (mkL mkInt cntInt k l)) (hh : hi ≤ w.heap.size) (hk1 : 0 ≤ k) (hk2 : k + (cntL cntInt l : Int) ≤ 1152921504606846976) :
    Calls Try.prog 36 #[.slice A n c, .int .i64 k] w (RetHd (k + (cntL cntInt l : Int)) w) := by
  have e1 : l.length = n := by have := h.lenEq; rwa [mkL_len] at this
  have b1 := h.lenLe
  go_enter Try.func36, Try.ntmps36
  go_wp2_with fail
  go_loopw [1, 5] (fun kk i wr => ∃ (j : Nat) (K : Int), j ≤ n ∧ i = .int .i64 j ∧ kk = .int .i64 K ∧ K = k + (cntL cntInt (l.take j) : Int) ∧ Below w.heap.size w wr) (fun _ i _ => n - (intOf i).toNat)
  case atStart => exact ⟨0, k, Nat.zero_le _, rfl, rfl, by simp [cntL], Below.refl _ _⟩
  case round =>
    obtain ⟨j, K, hj, rfl, rfl, hK0, hb⟩ := hrel
    have a0 : 0 ≤ K := by omega
    have a1 : K ≤ 1152921504606846976 := by have := cntL_take_le (cnt := cntInt) l j; omega
    have hhr : hi ≤ wr.heap.size := by have := hb.size; omega
    have hK := Lib.hid hK0
    by_cases hlt : j < n
    · have hg := mkL_get (mkf := mkInt) (cnt := cntInt) (l := l) (j := j) (k := k) (by omega)
      have hs0 := cntL_succ (cnt := cntInt) (l := l) (k := j) (by omega)
      have hle := cntL_take_le (cnt := cntInt) l (j + 1)
      obtain ⟨b, o, rfl, _, _, hc1, _⟩ := (h.below hb hh).int_at hlt
      rw [hg, ← hK0] at hc1
      have hK1 := Lib.hid (show K + 1 = k + (cntL cntInt (l.take (j + 1)) : Int) by rw [hs0]; simp only [cntInt]; omega)
      clear hg hs0 hle hK0
      unfold mkInt at hc1
      go_wp2_with fail
      go_roundw
      case rel => exact ⟨j + 1, K + 1, by omega, by go_num, by first | rfl | go_num, hK1.out, hb⟩
      case measure => simp [intOf]; omega
    · have hK2 := Lib.hid (show K = k + (cntL cntInt l : Int) by rw [hK0, List.take_of_length_le (by omega)])
      clear hK0
      go_wp2_with fail
      go_ret
      exact ⟨_, rfl, hK2.out, hb⟩
end Go.Proofs.Ytgoinmdnpaknpaa

/- Marks read back: bool. Printed by heldgen.py. Walks. -/
set_option linter.unusedVariables false
set_option linter.unusedSimpArgs false
set_option linter.unnecessarySimpa false
set_option maxRecDepth 100000
namespace Go.Proofs.Ytgoinmdnpaknpaa
open Go.RowKit

end Go.Proofs.Ytgoinmdnpaknpaa

/- SameInts. Printed by samegen.py. Walks. -/
set_option linter.unusedVariables false
set_option linter.unusedSimpArgs false
set_option maxRecDepth 100000
namespace Go.Proofs.Ytgoinmdnpaknpaa
open Go.RowKit

end Go.Proofs.Ytgoinmdnpaknpaa
