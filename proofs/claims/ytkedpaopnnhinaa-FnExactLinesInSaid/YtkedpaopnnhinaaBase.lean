/- Words for memory: how data lie in cells; a slice that reads as a list; a slice that owns its list; what a call leaves as it was. Plain lemmas, no program. -/
import Derived.Test.YtkedpaopnnhinaaRows
import Derived.WalkKit
import Derived.WalkSpells
import Derived.Lib.Hide
import Derived.Deep.Draws
import Derived.Laws.IdiomCopy
set_option linter.unusedVariables false
set_option linter.unusedSimpArgs false
namespace Go.Proofs.Ytkedpaopnnhinaa
open Go.RowKit

/-- Within the bounds of an int. -/
def I64 (n : Int) : Prop := -9223372036854775808 ≤ n ∧ n ≤ 9223372036854775807

/-! ### three lists, place by place -/
def All3 {α β γ : Type} (P : α → β → γ → Prop) : List α → List β → List γ → Prop
  | [], [], [] => True
  | a :: xs, b :: ys, c :: zs => P a b c ∧ All3 P xs ys zs
  | _, _, _ => False
theorem All3.len {α β γ : Type} {P : α → β → γ → Prop} : ∀ {xs : List α} {ys : List β} {zs : List γ}, All3 P xs ys zs → xs.length = zs.length ∧ ys.length = zs.length
  | [], [], [], _ => ⟨rfl, rfl⟩
  | _ :: xs, _ :: ys, _ :: zs, h => by have := All3.len (xs := xs) (ys := ys) (zs := zs) h.2; simp [this]
  | [], [], _ :: _, h => h.elim
  | [], _ :: _, [], h => h.elim
  | [], _ :: _, _ :: _, h => h.elim
  | _ :: _, [], [], h => h.elim
  | _ :: _, [], _ :: _, h => h.elim
  | _ :: _, _ :: _, [], h => h.elim
theorem All3.snoc {α β γ : Type} {P : α → β → γ → Prop} {a : α} {b : β} {c : γ} (hp : P a b c) : ∀ {xs : List α} {ys : List β} {zs : List γ}, All3 P xs ys zs → All3 P (xs ++ [a]) (ys ++ [b]) (zs ++ [c])
  | [], [], [], _ => ⟨hp, trivial⟩
  | _ :: xs, _ :: ys, _ :: zs, h => ⟨h.1, All3.snoc hp (xs := xs) (ys := ys) (zs := zs) h.2⟩
  | [], [], _ :: _, h => h.elim
  | [], _ :: _, [], h => h.elim
  | [], _ :: _, _ :: _, h => h.elim
  | _ :: _, [], [], h => h.elim
  | _ :: _, [], _ :: _, h => h.elim
  | _ :: _, _ :: _, [], h => h.elim
theorem All3.mono {α β γ : Type} {P Q : α → β → γ → Prop} : ∀ {xs : List α} {ys : List β} {zs : List γ}, (∀ a b c, a ∈ xs → P a b c → Q a b c) → All3 P xs ys zs → All3 Q xs ys zs
  | [], [], [], _, _ => trivial
  | a :: xs, _ :: ys, _ :: zs, hq, h => ⟨hq _ _ _ (List.mem_cons_self ..) h.1, All3.mono (xs := xs) (ys := ys) (zs := zs) (fun x y z hx => hq x y z (List.mem_cons_of_mem _ hx)) h.2⟩
  | [], [], _ :: _, _, h => h.elim
  | [], _ :: _, [], _, h => h.elim
  | [], _ :: _, _ :: _, _, h => h.elim
  | _ :: _, [], [], _, h => h.elim
  | _ :: _, [], _ :: _, _, h => h.elim
  | _ :: _, _ :: _, [], _, h => h.elim
theorem All3.get {α β γ : Type} {P : α → β → γ → Prop} : ∀ {xs : List α} {ys : List β} {zs : List γ} (_ : All3 P xs ys zs) (i : Nat) (ha : i < xs.length) (hb : i < ys.length) (hc : i < zs.length), P xs[i] ys[i] zs[i]
  | [], [], [], _, _, h, _, _ => absurd h (by simp)
  | _ :: _, _ :: _, _ :: _, h, 0, _, _, _ => h.1
  | _ :: xs, _ :: ys, _ :: zs, h, i + 1, ha, hb, hc => All3.get (xs := xs) (ys := ys) (zs := zs) h.2 i (by simpa using ha) (by simpa using hb) (by simpa using hc)
  | [], [], _ :: _, h, _, _, _, _ => h.elim
  | [], _ :: _, [], h, _, _, _, _ => h.elim
  | [], _ :: _, _ :: _, h, _, _, _, _ => h.elim
  | _ :: _, [], [], h, _, _, _, _ => h.elim
  | _ :: _, [], _ :: _, h, _, _, _, _ => h.elim
  | _ :: _, _ :: _, [], h, _, _, _, _ => h.elim

/-- How a datum lies in cells. rel: read alone (the cells may point to blocks from lo to below hi, shared or not). own: the datum owns just the blocks F. -/
structure Rp (α : Type) where
  size : Nat
  rel : World → Nat → Nat → List Value → α → Prop
  own : World → List Nat → List Value → α → Prop
  len : ∀ {w lo hi cs x}, rel w lo hi cs x → cs.length = size
  ownLen : ∀ {w F cs x}, own w F cs x → cs.length = size
  keep : ∀ {w w' : World} {lo hi lo' hi' cs x}, lo' ≤ lo → hi ≤ hi' → (∀ k, lo ≤ k → k < hi → w'.heap[k]? = w.heap[k]?) → rel w lo hi cs x → rel w' lo' hi' cs x
  ownKeep : ∀ {w w' : World} {F cs x}, (∀ k, k ∈ F → w'.heap[k]? = w.heap[k]?) → own w F cs x → own w' F cs x
  ownRel : ∀ {w F lo hi cs x}, own w F cs x → (∀ k, k ∈ F → lo ≤ k ∧ k < hi) → rel w lo hi cs x
  ownLt : ∀ {w F cs x}, own w F cs x → ∀ k, k ∈ F → k < w.heap.size
  ownNodup : ∀ {w F cs x}, own w F cs x → F.Nodup

/-- A datum without pointers. -/
def flatR {α : Type} (size : Nat) (enc : α → List Value) (wf : α → Prop) (h : ∀ x, (enc x).length = size) : Rp α where
  size := size
  rel := fun _ _ _ cs x => cs = enc x ∧ wf x
  own := fun _ F cs x => F = [] ∧ cs = enc x ∧ wf x
  len := fun ⟨e, _⟩ => by rw [e]; exact h _
  ownLen := fun ⟨_, e, _⟩ => by rw [e]; exact h _
  keep := fun _ _ _ h => h
  ownKeep := fun _ h => h
  ownRel := fun ⟨_, h⟩ _ => h
  ownLt := fun ⟨e, _⟩ k hk => by subst e; simp at hk
  ownNodup := fun ⟨e, _⟩ => by subst e; simp
def intR : Rp Int := flatR 1 (fun x => [.int .i64 x]) I64 (fun _ => rfl)
def boolR : Rp Bool := flatR 1 (fun x => [.bool x]) (fun _ => True) (fun _ => rfl)

/-- Two data, one behind the other: the fields of a struct. -/
def pairR {α β : Type} (R : Rp α) (S : Rp β) : Rp (α × β) where
  size := R.size + S.size
  rel := fun w lo hi cs x => ∃ a b, cs = a ++ b ∧ R.rel w lo hi a x.1 ∧ S.rel w lo hi b x.2
  own := fun w F cs x => ∃ a b Fa Fb, cs = a ++ b ∧ F = Fa ++ Fb ∧ R.own w Fa a x.1 ∧ S.own w Fb b x.2 ∧ (Fa ++ Fb).Nodup
  len := fun ⟨a, b, e, h1, h2⟩ => by rw [e, List.length_append, R.len h1, S.len h2]
  ownLen := fun ⟨a, b, _, _, e, _, h1, h2, _⟩ => by rw [e, List.length_append, R.ownLen h1, S.ownLen h2]
  keep := fun h1 h2 hk ⟨a, b, e, r, s⟩ => ⟨a, b, e, R.keep h1 h2 hk r, S.keep h1 h2 hk s⟩
  ownKeep := fun hk ⟨a, b, Fa, Fb, e, f, r, s, n⟩ => ⟨a, b, Fa, Fb, e, f, R.ownKeep (fun k h => hk k (f ▸ List.mem_append_left _ h)) r, S.ownKeep (fun k h => hk k (f ▸ List.mem_append_right _ h)) s, n⟩
  ownRel := fun ⟨a, b, Fa, Fb, e, f, r, s, n⟩ hF => ⟨a, b, e, R.ownRel r (fun k h => hF k (f ▸ List.mem_append_left _ h)), S.ownRel s (fun k h => hF k (f ▸ List.mem_append_right _ h))⟩
  ownLt := fun ⟨a, b, Fa, Fb, e, f, r, s, n⟩ k hk => by
    subst f
    rcases List.mem_append.1 hk with h | h
    · exact R.ownLt r k h
    · exact S.ownLt s k h
  ownNodup := fun ⟨a, b, Fa, Fb, e, f, r, s, n⟩ => f ▸ n

/-- A slice that reads as a list. -/
def Sl {α : Type} (R : Rp α) (w : World) (lo hi : Nat) (A : Option Addr) (n c : Nat) (l : List α) : Prop :=
  l.length = n ∧ n ≤ c ∧ c ≤ maxLen ∧ (0 < n → ∃ b off, A = some ⟨b, off, none⟩ ∧ lo ≤ b ∧ b < hi ∧
    ∀ (i : Nat) (hi' : i < l.length), ∃ cs, R.rel w lo hi cs l[i] ∧ ∀ (j : Nat) (hj : j < cs.length), w.cell? ⟨b, off + i * R.size + j, none⟩ = some cs[j])

theorem Sl.keep {α : Type} {R : Rp α} {w w' : World} {lo hi lo' hi' : Nat} {A : Option Addr} {n c : Nat} {l : List α} (h : Sl R w lo hi A n c l) (h1 : lo' ≤ lo) (h2 : hi ≤ hi')
    (hk : ∀ k, lo ≤ k → k < hi → w'.heap[k]? = w.heap[k]?) : Sl R w' lo' hi' A n c l := by
  obtain ⟨e1, e2, e3, h⟩ := h
  refine ⟨e1, e2, e3, fun hn => ?_⟩
  obtain ⟨b, off, rfl, hb1, hb2, h⟩ := h hn
  refine ⟨b, off, rfl, by omega, by omega, fun i hi' => ?_⟩
  obtain ⟨cs, hr, hc⟩ := h i hi'
  refine ⟨cs, R.keep h1 h2 hk hr, fun j hj => ?_⟩
  rw [World.cell?_of_block (w := w) (hk b hb1 hb2)]
  exact hc j hj

/-- A slice that owns its list: the outer array is a block of its own (from its head on), the elements own what they reach; no block twice. -/
def OwnSl {α : Type} (R : Rp α) (w : World) (e : TypeId) (F : List Nat) (v : Value) (l : List α) : Prop :=
  ∃ csl Fs, w.ownsRow 0 e R.size v l.length csl.flatten ∧ All3 (R.own w) Fs csl l ∧ F = v.ownBlock.toList ++ Fs.flatten ∧ F.Nodup

theorem flatten_get {β : Type} {s : Nat} : ∀ {csl : List (List β)}, (∀ c ∈ csl, c.length = s) → ∀ (i : Nat) (hi : i < csl.length) (j : Nat), j < s → csl.flatten[i * s + j]? = csl[i][j]?
  | [], _, _, hi, _, _ => absurd hi (by simp)
  | c :: csl, h, 0, _, j, hj => by
    have hc := h c (List.mem_cons_self ..)
    simp [List.getElem?_append, hc, hj]
  | c :: csl, h, i + 1, hi, j, hj => by
    have hc := h c (List.mem_cons_self ..)
    have := flatten_get (csl := csl) (fun x hx => h x (List.mem_cons_of_mem _ hx)) i (by simpa using hi) j hj
    rw [List.flatten_cons, List.getElem?_append_right (by rw [hc, Nat.add_mul]; omega), hc, show (i + 1) * s + j - s = i * s + j by rw [Nat.add_mul]; omega, this]
    simp
theorem all3_len {α : Type} {R : Rp α} {w : World} : ∀ {Fs : List (List Nat)} {csl : List (List Value)} {l : List α}, All3 (R.own w) Fs csl l → ∀ c ∈ csl, c.length = R.size
  | _ :: Fs, c :: csl, _ :: l, h => fun x hx => by
    rcases List.mem_cons.1 hx with rfl | hx
    · exact R.ownLen h.1
    · exact all3_len (Fs := Fs) (csl := csl) (l := l) h.2 x hx
  | [], [], [], _ => fun _ hx => absurd hx (by simp)
  | [], [], _ :: _, h => h.elim
  | [], _ :: _, [], h => h.elim
  | [], _ :: _, _ :: _, h => h.elim
  | _ :: _, [], [], h => h.elim
  | _ :: _, [], _ :: _, h => h.elim
  | _ :: _, _ :: _, [], h => h.elim

section
variable {α : Type} {R : Rp α} {w w' : World} {e : TypeId} {F : List Nat} {v : Value} {l : List α}
theorem ownsRow_keep0 {base size n : Nat} {xs : List Value} (h : w.ownsRow base e size v n xs) (hk : ∀ k, v.ownBlock = some k → w'.heap[k]? = w.heap[k]?) : w'.ownsRow base e size v n xs := by
  obtain ⟨h1, h2⟩ := h
  refine ⟨h1, ?_⟩
  rcases h2 with h2 | ⟨g, cap, cur, hv, hg, hh, r⟩
  · exact Or.inl h2
  · exact Or.inr ⟨g, cap, cur, hv, hg, by rw [hk g (by rw [hv]; rfl)]; exact hh, r⟩
theorem OwnSl.keep (h : OwnSl R w e F v l) (hk : ∀ k, k ∈ F → w'.heap[k]? = w.heap[k]?) : OwnSl R w' e F v l := by
  obtain ⟨csl, Fs, h1, h2, rfl, hn⟩ := h
  refine ⟨csl, Fs, ownsRow_keep0 h1 fun k hv => hk k (by rw [hv]; simp), ?_, rfl, hn⟩
  exact h2.mono fun a b c ha h => R.ownKeep (fun k hka => hk k (List.mem_append_right _ (List.mem_flatten.2 ⟨a, ha, hka⟩))) h
theorem OwnSl.lt (h : OwnSl R w e F v l) : ∀ k, k ∈ F → k < w.heap.size := by
  obtain ⟨csl, Fs, h1, h2, rfl, hn⟩ := h
  intro k hk
  rcases List.mem_append.1 hk with hk | hk
  · exact (h1.lt k (by simpa using hk)).2
  · obtain ⟨a, ha, hka⟩ := List.mem_flatten.1 hk
    have h3 := h2.mono (Q := fun a _ _ => ∀ k, k ∈ a → k < w.heap.size) fun a b c _ h => R.ownLt h
    obtain ⟨i, hi, rfl⟩ := List.getElem_of_mem ha
    have hl := h2.len
    exact h3.get i hi (by omega) (by omega) k hka
theorem OwnSl.form (h : OwnSl R w e F v l) : ∃ A n c, v = .slice A n c ∧ n = l.length := by
  obtain ⟨csl, Fs, h1, _⟩ := h
  rcases h1.2 with ⟨rfl, h⟩ | ⟨g, cap, cur, rfl, _⟩
  · exact ⟨_, _, _, rfl, h.symm⟩
  · exact ⟨_, _, _, rfl, rfl⟩
theorem OwnSl.toSl {A : Option Addr} {n c lo hi : Nat} (h : OwnSl R w e F (.slice A n c) l) (hF : ∀ k, k ∈ F → lo ≤ k ∧ k < hi) : Sl R w lo hi A n c l := by
  obtain ⟨csl, Fs, h1, h2, rfl, hn⟩ := h
  have hl := h2.len
  have hcs := all3_len h2
  rcases h1.2 with ⟨h, h0⟩ | ⟨g, cap, cur, h, _, hg, hnc, hcm, hsz, htk⟩
  · injection h with e1 e2 e3
    subst e1 e2 e3
    exact ⟨by omega, Nat.le_refl _, Nat.zero_le _, fun h => absurd h (by omega)⟩
  · injection h with e1 e2 e3
    subst e1 e2 e3
    refine ⟨rfl, hnc, hcm, fun hp => ⟨g, 0, rfl, (hF g (by simp [Value.ownBlock])).1, (hF g (by simp [Value.ownBlock])).2, fun i hi' => ⟨csl[i]'(by omega), ?_, fun j hj => ?_⟩⟩⟩
    · refine R.ownRel (h2.get i (by omega) (by omega) hi') fun k hk => hF k ?_
      exact List.mem_append_right _ (List.mem_flatten.2 ⟨_, List.getElem_mem (by omega), hk⟩)
    · have hjs : j < R.size := by rw [← hcs _ (List.getElem_mem (by omega : i < csl.length))]; exact hj
      have hle : i * R.size + j < l.length * R.size := by
        have : (i + 1) * R.size ≤ l.length * R.size := Nat.mul_le_mul_right _ hi'
        rw [Nat.add_mul] at this; omega
      rw [cell_of_row w g _ cur e (0, 0) hg, Nat.zero_add]
      have := flatten_get hcs i (by omega) j hjs
      rw [← htk, List.getElem?_take, if_pos hle] at this
      simp at this
      rw [this]
      simp [hj]
end

def sliceR {α : Type} (e : TypeId) (R : Rp α) : Rp (List α) where
  size := 1
  rel := fun w lo hi cs l => ∃ A n c, cs = [.slice A n c] ∧ Sl R w lo hi A n c l
  own := fun w F cs l => ∃ A n c, cs = [.slice A n c] ∧ OwnSl R w e F (.slice A n c) l
  len := fun ⟨_, _, _, h, _⟩ => by rw [h]; rfl
  ownLen := fun ⟨_, _, _, h, _⟩ => by rw [h]; rfl
  keep := fun h1 h2 hk ⟨A, n, c, e, h⟩ => ⟨A, n, c, e, h.keep h1 h2 hk⟩
  ownKeep := fun hk ⟨A, n, c, e, h⟩ => ⟨A, n, c, e, h.keep hk⟩
  ownRel := fun ⟨A, n, c, e, h⟩ hF => ⟨A, n, c, e, h.toSl hF⟩
  ownLt := fun ⟨_, _, _, _, h⟩ => h.lt
  ownNodup := fun ⟨_, _, _, _, _, _, _, _, _, h⟩ => h

section
variable {α : Type} {R : Rp α} {w w' : World} {lo hi : Nat} {A : Option Addr} {n c : Nat} {l : List α}
theorem Sl.below {B : Nat} (h : Sl R w lo hi A n c l) (hb : Below B w w') (hB : hi ≤ B) : Sl R w' lo hi A n c l :=
  h.keep (Nat.le_refl _) (Nat.le_refl _) fun k _ hk => hb.block k (by omega)
theorem Sl.drew (h : Sl R w lo hi A n c l) : Sl R w.drew lo hi A n c l := h.keep (Nat.le_refl _) (Nat.le_refl _) fun _ _ _ => rfl
theorem Sl.more {lo' hi' : Nat} (h : Sl R w lo hi A n c l) (h1 : lo' ≤ lo) (h2 : hi ≤ hi') : Sl R w lo' hi' A n c l := h.keep h1 h2 fun _ _ _ => rfl
theorem Sl.at_ {k : Nat} (h : Sl R w lo hi A n c l) (hk : k < n) : ∃ b off cs, A = some ⟨b, off, none⟩ ∧ lo ≤ b ∧ b < hi ∧ R.rel w lo hi cs (l[k]'(by have := h.1; omega)) ∧
    ∀ (j : Nat) (hj : j < cs.length), w.cell? ⟨b, off + k * R.size + j, none⟩ = some cs[j] := by
  obtain ⟨e1, _, _, h⟩ := h
  obtain ⟨b, off, rfl, hb1, hb2, h⟩ := h (by omega)
  obtain ⟨cs, hr, hc⟩ := h k (by omega)
  exact ⟨b, off, cs, rfl, hb1, hb2, hr, hc⟩
theorem Sl.lenEq (h : Sl R w lo hi A n c l) : l.length = n := h.1
theorem Sl.lenLe (h : Sl R w lo hi A n c l) : n ≤ 9223372036854775807 := by have := h.2.1; have h2 := h.2.2.1; unfold maxLen at h2; omega
theorem Sl.nil_ (R : Rp α) (w : World) (lo hi : Nat) : Sl R w lo hi none 0 0 [] := ⟨rfl, Nat.le_refl _, Nat.zero_le _, fun h => absurd h (by omega)⟩
end
theorem Sl.int_at {w : World} {lo hi : Nat} {A : Option Addr} {n c k : Nat} {l : List Int} (h : Sl intR w lo hi A n c l) (hk : k < n) :
    ∃ b off, A = some ⟨b, off, none⟩ ∧ lo ≤ b ∧ b < hi ∧ w.cell? ⟨b, off + k, none⟩ = some (.int .i64 (l[k]'(by have := h.1; omega))) ∧ I64 (l[k]'(by have := h.1; omega)) := by
  obtain ⟨b, off, cs, rfl, h1, h2, ⟨rfl, hi⟩, hc⟩ := h.at_ hk
  have := hc 0 (by simp)
  simp [intR, flatR] at this
  exact ⟨b, off, rfl, h1, h2, this, hi⟩

/-! ### a made array that is filled place by place -/
/-- The array of block g (n places) holds the data l at its first places. -/
def Fill {α : Type} (R : Rp α) (w : World) (e : TypeId) (F : List Nat) (g n : Nat) (l : List α) : Prop :=
  ∃ csl Fs rest, w.ownsRow 0 e R.size (.slice (some ⟨g, 0, none⟩) n n) n (csl.flatten ++ rest) ∧ All3 (R.own w) Fs csl l ∧ F = g :: Fs.flatten ∧ F.Nodup ∧ l.length ≤ n

theorem setCells_rowC {w : World} {e : TypeId} {size n n' g : Nat} : ∀ (cs pre mid post : List Value) (o : Nat) (w : World), w.ownsRow 0 e size (.slice (some ⟨g, 0, none⟩) n n') n (pre ++ mid ++ post) → mid.length = cs.length → pre.length = o →
    (w.setCells g o cs).ownsRow 0 e size (.slice (some ⟨g, 0, none⟩) n n') n (pre ++ cs ++ post)
  | [], pre, [], post, _, w, h, _, _ => h
  | c :: cs, pre, m :: mid, post, o, w, h, hl, ho => by
    have h1 := (h.stored o c).1
    have e1 : (pre ++ m :: mid ++ post).set o c = (pre ++ [c]) ++ mid ++ post := by
      subst ho
      simp
    rw [e1] at h1
    have := setCells_rowC (w := w) cs (pre ++ [c]) mid post (o + 1) _ h1 (by simpa using hl) (by simp [ho])
    simpa [World.setCells] using this
  | [], pre, _ :: _, post, _, w, h, hl, _ => by simp at hl
  | _ :: _, pre, [], post, _, w, h, hl, _ => by simp at hl
theorem setCells_row {w : World} {e : TypeId} {size n g : Nat} (cs pre mid post : List Value) (o : Nat) (w : World) (h : w.ownsRow 0 e size (.slice (some ⟨g, 0, none⟩) n n) n (pre ++ mid ++ post)) (h1 : mid.length = cs.length) (h2 : pre.length = o) :
    (w.setCells g o cs).ownsRow 0 e size (.slice (some ⟨g, 0, none⟩) n n) n (pre ++ cs ++ post) := setCells_rowC (w := w) cs pre mid post o w h h1 h2
theorem heap_setCells_other (g : Nat) : ∀ (cs : List Value) (o : Nat) (w : World) (k : Nat), k ≠ g → (w.setCells g o cs).heap[k]? = w.heap[k]?
  | [], _, _, _, _ => rfl
  | c :: cs, o, w, k, h => by
    rw [World.setCells, heap_setCells_other g cs (o + 1) _ k h]
    exact Below.heap_setCell _ _ _ _ h
theorem size_setCells (g : Nat) : ∀ (cs : List Value) (o : Nat) (w : World), (w.setCells g o cs).heap.size = w.heap.size
  | [], _, _ => rfl
  | c :: cs, o, w => by rw [World.setCells, size_setCells g cs]; simp
theorem below_setCells {B : Nat} {a : World} (g : Nat) (hg : B ≤ g) : ∀ (cs : List Value) (o : Nat) (w : World), Below B a w → Below B a (w.setCells g o cs)
  | [], _, _, h => h
  | c :: cs, o, w, h => by
    rw [World.setCells]
    exact below_setCells g hg cs (o + 1) _ (h.setCell (p := ⟨g, o, none⟩) hg c)

section
variable {α : Type} {R : Rp α} {w w' : World} {e : TypeId} {F : List Nat} {g n : Nat} {l : List α}
theorem flatten_len {s : Nat} : ∀ {csl : List (List Value)}, (∀ c ∈ csl, c.length = s) → csl.flatten.length = csl.length * s
  | [], _ => by simp
  | c :: csl, h => by
    rw [List.flatten_cons, List.length_append, h c (List.mem_cons_self ..), flatten_len fun x hx => h x (List.mem_cons_of_mem _ hx), List.length_cons, Nat.add_mul]; omega
theorem Fill.start {rest : List Value} (h : w.ownsRow 0 e R.size (.slice (some ⟨g, 0, none⟩) n n) n rest) : Fill R w e [g] g n [] :=
  ⟨[], [], _, by simpa using h, trivial, rfl, by simp, Nat.zero_le _⟩
theorem Fill.keep (h : Fill R w e F g n l) (hk : ∀ k, k ∈ F → w'.heap[k]? = w.heap[k]?) : Fill R w' e F g n l := by
  obtain ⟨csl, Fs, rest, h1, h2, rfl, hn, hl⟩ := h
  refine ⟨csl, Fs, rest, ownsRow_keep0 h1 fun k hv => hk k ?_, ?_, rfl, hn, hl⟩
  · simp [Value.ownBlock] at hv
    simp [hv]
  · exact h2.mono fun a b c ha h => R.ownKeep (fun k hka => hk k (List.mem_cons_of_mem _ (List.mem_flatten.2 ⟨a, ha, hka⟩))) h
theorem Fill.cell (h : Fill R w e F g n l) (hl : l.length < n) {j : Nat} (hj : j < R.size) : ∃ u, w.cell? ⟨g, l.length * R.size + j, none⟩ = some u := by
  obtain ⟨csl, Fs, rest, h1, h2, rfl, hn, _⟩ := h
  have hle : l.length * R.size + j < n * R.size := by
    have : (l.length + 1) * R.size ≤ n * R.size := Nat.mul_le_mul_right _ hl
    rw [Nat.add_mul] at this; omega
  rw [h1.cellAt _ hle]
  exact ⟨_, List.getElem?_eq_getElem (by rw [h1.1]; exact hle)⟩
theorem Fill.frozen (h : Fill R w e F g n l) (j : Nat) : w.frozen? ⟨g, j, none⟩ = false := by
  obtain ⟨csl, Fs, rest, h1, _⟩ := h
  exact h1.frozenAt j
theorem Fill.lt (h : Fill R w e F g n l) : ∀ k, k ∈ F → k < w.heap.size := by
  obtain ⟨csl, Fs, rest, h1, h2, rfl, hn, _⟩ := h
  intro k hk
  rcases List.mem_cons.1 hk with rfl | hk
  · exact (h1.lt k rfl).2
  · obtain ⟨a, ha, hka⟩ := List.mem_flatten.1 hk
    have h3 := h2.mono (Q := fun a _ _ => ∀ k, k ∈ a → k < w.heap.size) fun a b c _ h => R.ownLt h
    obtain ⟨i, hi, rfl⟩ := List.getElem_of_mem ha
    have hl := h2.len
    exact h3.get i hi (by omega) (by omega) k hka
theorem Fill.step {Fx : List Nat} {cs : List Value} {x : α} (h : Fill R w e F g n l) (hl : l.length < n) (hx : R.own w Fx cs x) (hd : ∀ k, k ∈ Fx → k ∉ F) :
    Fill R (w.setCells g (l.length * R.size) cs) e (F ++ Fx) g n (l ++ [x]) := by
  obtain ⟨csl, Fs, rest, h1, h2, rfl, hn, _⟩ := h
  have hlen := h2.len
  have hfl : csl.flatten.length = l.length * R.size := by rw [flatten_len (all3_len h2), hlen.2]
  have hcs := R.ownLen hx
  have hrest : R.size ≤ rest.length := by
    have := h1.1
    rw [List.length_append, hfl] at this
    have h3 : (l.length + 1) * R.size ≤ n * R.size := Nat.mul_le_mul_right _ hl
    rw [Nat.add_mul] at h3; omega
  have hkeep : ∀ k, k ≠ g → (w.setCells g (l.length * R.size) cs).heap[k]? = w.heap[k]? := fun k hk => heap_setCells_other g cs _ w k hk
  have hg : g ∉ Fs.flatten := (List.nodup_cons.1 hn).1
  refine ⟨csl ++ [cs], Fs ++ [Fx], rest.drop R.size, ?_, ?_, by simp, ?_, by simp; omega⟩
  · have := setCells_row (w := w) (g := g) cs csl.flatten (rest.take R.size) (rest.drop R.size) (l.length * R.size) w (by rw [List.append_assoc, List.take_append_drop]; exact h1) (by rw [List.length_take, hcs]; omega) hfl
    simpa using this
  · refine All3.snoc ?_ (h2.mono fun a b c ha h => R.ownKeep (fun k hka => hkeep k ?_) h)
    · exact R.ownKeep (fun k hk => hkeep k (fun e => by subst e; exact hd _ hk (List.mem_cons_self ..))) hx
    · rintro rfl
      exact hg (List.mem_flatten.2 ⟨a, ha, hka⟩)
  · rw [List.nodup_append]
    exact ⟨hn, R.ownNodup hx, fun a ha b hb hab => hd b hb (hab ▸ ha)⟩
theorem Fill.done (h : Fill R w e F g n l) (hl : l.length = n) : OwnSl R w e F (.slice (some ⟨g, 0, none⟩) n n) l := by
  obtain ⟨csl, Fs, rest, h1, h2, rfl, hn, _⟩ := h
  have hlen := h2.len
  have hfl : csl.flatten.length = l.length * R.size := by rw [flatten_len (all3_len h2), hlen.2]
  have hr : rest = [] := by
    have := h1.1
    rw [List.length_append, hfl, hl] at this
    exact List.eq_nil_of_length_eq_zero (by omega)
  subst hr
  subst hl
  exact ⟨csl, Fs, by simpa using h1, h2, rfl, hn⟩
end
theorem Fill.cell' {α : Type} {R : Rp α} {w : World} {e : TypeId} {F : List Nat} {g n k j : Nat} {l : List α} (h : Fill R w e F g n l) (hl : l.length = k) (hk : k < n) (hj : j < R.size) : ∃ u, w.cell? ⟨g, k * R.size + j, none⟩ = some u := by
  subst hl; exact h.cell hk hj
theorem Fill.below {α : Type} {R : Rp α} {w w' : World} {e : TypeId} {F : List Nat} {g n : Nat} {l : List α} (h : Fill R w e F g n l) (hb : Below w.heap.size w w') : Fill R w' e F g n l :=
  h.keep fun k hk => hb.block k (h.lt k hk)
theorem Fill.step' {α : Type} {R : Rp α} {w : World} {e : TypeId} {F : List Nat} {g n k : Nat} {l : List α} {Fx : List Nat} {cs : List Value} (h : Fill R w e F g n (l.take k)) (hln : l.length = n) (hk : k < n) (hx : R.own w Fx cs (l[k]'(by omega))) (hd : ∀ i, i ∈ Fx → i ∉ F) :
    Fill R (w.setCells g (k * R.size) cs) e (F ++ Fx) g n (l.take (k + 1)) := by
  have hlk : (l.take k).length = k := by simp; omega
  have := h.step (by omega) hx hd
  rwa [hlk, ← List.take_succ_eq_append_getElem (by omega)] at this
theorem below_then {a b c : World} (h : Below a.heap.size a b) (k : Below b.heap.size b c) : Below a.heap.size a c := h.trans (k.mono h.size)
/-- The call returns a slice of its own that reads as l; what was there is as it was. -/
def RetOwn {α : Type} (R : Rp α) (E : TypeId) (l : List α) (w : World) (e : Ending) (w' : World) : Prop :=
  ∃ F A n c, e = .returned (.slice A n c) ∧ OwnSl R w' E F (.slice A n c) l ∧ (∀ k, k ∈ F → w.heap.size ≤ k) ∧ Below w.heap.size w w'

theorem RetOwn.mk {α : Type} {R : Rp α} {E : TypeId} {l : List α} {w w' : World} {e : Ending} {F : List Nat} {A : Option Addr} {n c : Nat} (he : e = .returned (.slice A n c)) (ho : OwnSl R w' E F (.slice A n c) l)
    (hF : ∀ k, k ∈ F → w.heap.size ≤ k) (hb : Below w.heap.size w w') : RetOwn R E l w e w' := ⟨F, A, n, c, he, ho, hF, hb⟩
theorem Fill.all {α : Type} {R : Rp α} {w : World} {e : TypeId} {F : List Nat} {g n k : Nat} {l : List α} (h : Fill R w e F g n (l.take k)) (h1 : l.length = n) (h2 : n ≤ k) : OwnSl R w e F (.slice (some ⟨g, 0, none⟩) n n) l := by
  rw [List.take_of_length_le (by omega)] at h
  exact h.done h1
/-! ### marks: the laws write rising numbers into what they hold -/
def mk (k : Int) (m : Nat) : List Value := (List.range m).map fun (t : Nat) => Value.int .i64 (k + (t : Int))
theorem mk_len (k : Int) (m : Nat) : (mk k m).length = m := by simp [mk]
theorem mk_succ (k : Int) (m : Nat) : mk k (m + 1) = mk k m ++ [.int .i64 (k + (m : Int))] := by simp [mk, List.range_succ]
theorem mk_at (k : Int) (m j : Nat) (h : j < m) : (mk k m)[j]? = some (.int .i64 (k + (j : Int))) := by simp [mk, h]
theorem mk_set (k : Int) (j : Nat) (xs : List Value) (h : j < xs.length) : (mk k j ++ xs.drop j).set j (.int .i64 (k + (j : Int))) = mk k (j + 1) ++ xs.drop (j + 1) := by
  rw [List.set_append_right _ _ (by rw [mk_len]; omega), mk_len, Nat.sub_self, List.drop_eq_getElem_cons h, List.set_cons_zero, mk_succ]
  simp
theorem mark_row {w : World} {e : TypeId} {size n n' g : Nat} {k : Int} {t s : Nat} {xs cs : List Value} (h : w.ownsRow 0 e size (.slice (some ⟨g, 0, none⟩) n n') n (mk k t ++ xs.drop t)) (hcs : mk k (t + s) = mk k t ++ cs) (hs : cs.length = s) (hl : t + s ≤ xs.length) :
    (w.setCells g t cs).ownsRow 0 e size (.slice (some ⟨g, 0, none⟩) n n') n (mk k (t + s) ++ xs.drop (t + s)) := by
  have e1 : xs.drop t = (xs.drop t).take s ++ xs.drop (t + s) := by rw [← List.drop_drop, List.take_append_drop]
  rw [e1, ← List.append_assoc] at h
  rw [hcs]
  exact setCells_rowC (w := w) cs (mk k t) _ _ t w h (by rw [List.length_take, List.length_drop]; omega) (mk_len k t)
theorem mk_add2 (k : Int) (t : Nat) : mk k (t + 2) = mk k t ++ [.int .i64 (k + (t : Int)), .int .i64 (k + (t : Int) + 1)] := by
  rw [show t + 2 = (t + 1) + 1 from rfl, mk_succ, mk_succ, List.append_assoc]; simp; omega
theorem mk_add3 (k : Int) (t : Nat) : mk k (t + 3) = mk k t ++ [.int .i64 (k + (t : Int)), .int .i64 (k + (t : Int) + 1), .int .i64 (k + (t : Int) + 1 + 1)] := by
  rw [show t + 3 = (t + 2) + 1 from rfl, mk_succ, mk_add2, List.append_assoc]; simp; omega
/-- Only the blocks of F (and new ones) may have turned. -/
structure Fr (F : List Nat) (w w' : World) : Prop where
  os : w'.os = w.os
  tape : w'.tape = w.tape
  output : w'.output = w.output
  size : w.heap.size ≤ w'.heap.size
  block : ∀ k, k < w.heap.size → k ∉ F → w'.heap[k]? = w.heap[k]?
theorem Fr.refl (F : List Nat) (w : World) : Fr F w w := ⟨rfl, rfl, rfl, Nat.le_refl _, fun _ _ _ => rfl⟩
theorem Fr.trans {F : List Nat} {a b c : World} (h : Fr F a b) (k : Fr F b c) : Fr F a c :=
  ⟨k.os.trans h.os, k.tape.trans h.tape, k.output.trans h.output, Nat.le_trans h.size k.size, fun i hi hn => (k.block i (Nat.lt_of_lt_of_le hi h.size) hn).trans (h.block i hi hn)⟩
theorem Fr.more {F F' : List Nat} {a b : World} (h : Fr F a b) (hs : ∀ k, k ∈ F → k ∈ F') : Fr F' a b := ⟨h.os, h.tape, h.output, h.size, fun i hi hn => h.block i hi (fun hx => hn (hs i hx))⟩
theorem Fr.drew {F : List Nat} {a w : World} (h : Fr F a w) : Fr F a w.drew := ⟨h.os, h.tape, h.output, h.size, h.block⟩
theorem Fr.drewN {F : List Nat} {a w : World} (h : Fr F a w) (n : Nat) : Fr F a (w.drewN n) := ⟨h.os, h.tape, h.output, h.size, h.block⟩
theorem Fr.alloc {F : List Nat} {a w : World} (h : Fr F a w) (o : Obj) : Fr F a (w.alloc o) :=
  h.trans ⟨rfl, rfl, rfl, by simp, fun k hk _ => Below.heap_alloc _ _ _ hk⟩
theorem Fr.setCell {F : List Nat} {a w : World} (h : Fr F a w) {p : Addr} (hp : p.block ∈ F) (u : Value) : Fr F a (w.setCell p u) :=
  h.trans ⟨rfl, rfl, rfl, by simp [World.setCell], fun k hk hn => Below.heap_setCell _ _ _ _ (fun e => hn (e ▸ hp))⟩
theorem Fr.of_below {F : List Nat} {a w : World} (h : Below a.heap.size a w) : Fr F a w := ⟨h.os, h.tape, h.output, h.size, fun k hk _ => h.block k hk⟩
/-- What was changed is new since an elder world: seen from there nothing has turned. -/
theorem below_fr {F : List Nat} {a b c : World} (h : Below a.heap.size a b) (k : Fr F b c) (hF : ∀ i, i ∈ F → a.heap.size ≤ i) : Below a.heap.size a c :=
  ⟨k.os.trans h.os, k.tape.trans h.tape, k.output.trans h.output, Nat.le_trans h.size k.size, fun i hi => (k.block i (Nat.lt_of_lt_of_le hi h.size) (fun hx => by have := hF i hx; omega)).trans (h.block i hi)⟩
theorem Fr.setCells {F : List Nat} {a : World} (g : Nat) (hg : g ∈ F) : ∀ (cs : List Value) (o : Nat) (w : World), Fr F a w → Fr F a (w.setCells g o cs)
  | [], _, _, h => h
  | c :: cs, o, w, h => by
    rw [World.setCells]
    exact Fr.setCells g hg cs (o + 1) _ (h.setCell (p := ⟨g, o, none⟩) hg c)
theorem own_cell {w : World} {e : TypeId} {size n c g j : Nat} {xs : List Value} (ho : w.ownsRow 0 e size (.slice (some ⟨g, 0, none⟩) n c) n xs) (hj : j < n * size) : ∃ u, w.cell? ⟨g, j, none⟩ = some u := by
  rw [ho.cellAt j hj]; exact ⟨_, List.getElem?_eq_getElem (by rw [ho.1]; exact hj)⟩
theorem Sl.fr {α : Type} {R : Rp α} {w w' : World} {lo hi : Nat} {A : Option Addr} {n c : Nat} {l : List α} {F : List Nat} (h : Sl R w lo hi A n c l) (hf : Fr F w w') (hh : hi ≤ w.heap.size) (hd : ∀ k, k ∈ F → k < lo ∨ hi ≤ k) : Sl R w' lo hi A n c l :=
  h.keep (Nat.le_refl _) (Nat.le_refl _) fun k h1 h2 => hf.block k (by omega) (fun hx => by have := hd k hx; omega)
theorem OwnSl.fr {α : Type} {R : Rp α} {w w' : World} {e : TypeId} {F G : List Nat} {v : Value} {l : List α} (h : OwnSl R w e F v l) (hf : Fr G w w') (hd : ∀ k, k ∈ F → k ∉ G) : OwnSl R w' e F v l :=
  h.keep fun k hk => hf.block k (h.lt k hk) (hd k hk)
theorem OwnSl.below {α : Type} {R : Rp α} {w w' : World} {e : TypeId} {F : List Nat} {v : Value} {l : List α} (h : OwnSl R w e F v l) (hf : Below w.heap.size w w') : OwnSl R w' e F v l :=
  h.keep fun k hk => hf.block k (h.lt k hk)
/-- The blocks of a slice value's own array, as a list. -/
theorem OwnSl.row {α : Type} {R : Rp α} {w : World} {e : TypeId} {F : List Nat} {v : Value} {l : List α} (h : OwnSl R w e F v l) : ∃ xs, w.ownsRow 0 e R.size v l.length xs ∧ ∀ g, v.ownBlock = some g → g ∈ F := by
  obtain ⟨csl, Fs, h1, _, rfl, _⟩ := h
  exact ⟨_, h1, fun g hg => by rw [hg]; simp⟩
/-- A slice value is nil (and empty) or stands at the head of a block of its own. -/
theorem ownsRow_cases {w : World} {e : TypeId} {size n m c : Nat} {A : Option Addr} {xs : List Value} (h : w.ownsRow 0 e size (.slice A m c) n xs) :
    m = n ∧ ((A = none ∧ n = 0 ∧ c = 0) ∨ ∃ g, A = some ⟨g, 0, none⟩ ∧ n ≤ c ∧ c ≤ 9223372036854775807) := by
  rcases h.2 with ⟨h1, h2⟩ | ⟨g, cap, cur, h1, _, _, h3, h4, _⟩
  · injection h1 with a b c
    subst a b c
    exact ⟨h2.symm, Or.inl ⟨rfl, h2, rfl⟩⟩
  · injection h1 with a b c
    subst a b c
    unfold maxLen at h4
    exact ⟨rfl, Or.inr ⟨g, rfl, h3, by omega⟩⟩

/-- Whether two data are the same: under a name that the walk does not open. -/
noncomputable def eqB {α : Type} (x y : α) : Bool := @decide (x = y) (Classical.propDecidable _)
theorem eqB_true {α : Type} {x y : α} (h : x = y) : eqB x y = true := @decide_eq_true _ (Classical.propDecidable _) h
theorem eqB_false {α : Type} {x y : α} (h : ¬ x = y) : eqB x y = false := @decide_eq_false _ (Classical.propDecidable _) h
theorem eqB_iff {α : Type} {x y : α} : eqB x y = true ↔ x = y := @decide_eq_true_iff _ (Classical.propDecidable _)
theorem below_cell {w w' : World} {p : Addr} {v : Value} (hb : Below w.heap.size w w') (h : w.cell? p = some v) : w'.cell? p = some v := (hb.cell (World.block_lt_of_cell? w p h)).trans h
/-- The call returns a bool; what was there is as it was. -/
def RetB (b : Bool) (w : World) (e : Ending) (w' : World) : Prop := e = .returned (.bool b) ∧ Below w.heap.size w w'
theorem RetB.mk {b b' : Bool} {w w' : World} (h : b' = b) (hb : Below w.heap.size w w') : RetB b w (.returned (.bool b')) w' := ⟨by rw [h], hb⟩

/-- A row of the call's own that holds ints owns its list. -/
theorem own_ints {w : World} {base : Nat} {e : TypeId} {v : Value} {l : List Int} (h : w.ownsRow base e 1 v l.length (l.map (Value.int .i64))) (hi : ∀ x, x ∈ l → I64 x) : OwnSl intR w e v.ownBlock.toList v l := by
  refine ⟨l.map fun x => [.int .i64 x], l.map fun _ => [], ?_, ?_, ?_, ?_⟩
  · have e1 : (l.map fun x => [Value.int .i64 x]).flatten = l.map (Value.int .i64) := by
      clear h hi
      induction l with
      | nil => rfl
      | cons x l ih => simp only [List.map_cons, List.flatten_cons, ih]; rfl
    rw [e1]
    refine ⟨h.1, ?_⟩
    rcases h.2 with h | ⟨g, cap, cur, a, b, r⟩
    · exact .inl h
    · exact .inr ⟨g, cap, cur, a, Nat.zero_le _, r⟩
  · clear h
    induction l with
    | nil => trivial
    | cons x l ih => exact ⟨⟨rfl, rfl, hi x (List.mem_cons_self ..)⟩, ih fun y hy => hi y (List.mem_cons_of_mem _ hy)⟩
  · have e2 : (l.map fun _ => ([] : List Nat)).flatten = [] := by
      clear h hi
      induction l with
      | nil => rfl
      | cons x l ih => simp only [List.map_cons, List.flatten_cons, ih]; rfl
    rw [e2, List.append_nil]
  · cases v.ownBlock <;> simp
theorem RetOwn.ints {E : TypeId} {l : List Int} {w w' : World} {v : Value} (h : w'.ownsRow w.heap.size E 1 v l.length (l.map (Value.int .i64))) (hi : ∀ x, x ∈ l → I64 x) (hb : Below w.heap.size w w') : RetOwn intR E l w (.returned v) w' := by
  have ho := own_ints h hi
  obtain ⟨A, n, c, hv, _⟩ := ho.form
  subst hv
  exact ⟨_, A, n, c, rfl, ho, fun k hk => (h.lt k (by simpa using hk)).1, hb⟩
theorem below_own {w wr wm w' : World} {E : TypeId} {size n : Nat} {v : Value} {xs : List Value} (ho : wr.ownsRow w.heap.size E size v n xs) (hg : wm.grownBy w' v.ownBlock) (hb : Below w.heap.size w wm) : Below w.heap.size w w' :=
  hb.grown hg hb.size fun k hk => (ho.lt k hk).1
theorem cell_new1 (w : World) (u : Value) (t : TypeId) {g : Nat} (hg : w.heap.size = g) : ∀ j v, [u][j]? = some v → (w.alloc (.cells #[u] t)).cell? ((⟨g, 0, none⟩ : Addr).add j) = some v := by
  intro j v h
  subst hg
  match j, h with
  | 0, h =>
    simp at h
    subst h
    rw [show (⟨w.heap.size, 0, none⟩ : Addr).add 0 = ⟨w.heap.size, 0, none⟩ from rfl]
    rw [cell_of_row _ _ _ _ _ _ (heap_alloc_new w _)]
    rfl
  | j + 1, h => simp at h

/-- The call returns a slice of its own that reads as l, and a bool; what was there is as it was. -/
def RetOwnB {α : Type} (R : Rp α) (E : TypeId) (l : List α) (b : Bool) (w : World) (e : Ending) (w' : World) : Prop :=
  ∃ F A n c, e = .returned (.tuple #[.slice A n c, .bool b]) ∧ OwnSl R w' E F (.slice A n c) l ∧ (∀ k, k ∈ F → w.heap.size ≤ k) ∧ Below w.heap.size w w'
theorem RetOwnB.mk {α : Type} {R : Rp α} {E : TypeId} {l : List α} {b b' : Bool} {w w' : World} {F : List Nat} {A : Option Addr} {n c : Nat} (ho : OwnSl R w' E F (.slice A n c) l)
    (hF : ∀ k, k ∈ F → w.heap.size ≤ k) (he : b' = b) (hb : Below w.heap.size w w') : RetOwnB R E l b w (.returned (.tuple #[.slice A n c, .bool b'])) w' := ⟨F, A, n, c, by rw [he], ho, hF, hb⟩
theorem OwnSl.nil_ {α : Type} (R : Rp α) (w : World) (e : TypeId) : OwnSl R w e [] (.slice none 0 0) [] := ⟨[], [], World.ownsRow_nil _ _ _ _, trivial, rfl, by simp⟩
theorem RetOwnB.nil_ {α : Type} {R : Rp α} {E : TypeId} {b' b : Bool} {l : List α} {w w' : World} (hl : l = []) (he : b' = b) (hb : Below w.heap.size w w') : RetOwnB R E l b w (.returned (.tuple #[.slice none 0 0, .bool b'])) w' := by
  subst hl; exact RetOwnB.mk (OwnSl.nil_ R w' E) (by simp) he hb
theorem RetOwnB.ints {E : TypeId} {l : List Int} {b b' : Bool} {w w' : World} {v : Value} (h : w'.ownsRow w.heap.size E 1 v l.length (l.map (Value.int .i64))) (hi : ∀ x, x ∈ l → I64 x) (he : b' = b) (hb : Below w.heap.size w w') : RetOwnB intR E l b w (.returned (.tuple #[v, .bool b'])) w' := by
  obtain ⟨F, A, n, c, hv, ho, hF, hb⟩ := RetOwn.ints h hi hb
  injection hv with hv
  subst hv
  exact RetOwnB.mk ho hF he hb

theorem OwnSl.sl {α : Type} {R : Rp α} {w : World} {e : TypeId} {F : List Nat} {A : Option Addr} {n c : Nat} {l : List α} (h : OwnSl R w e F (.slice A n c) l) : Sl R w 0 w.heap.size A n c l := h.toSl fun k hk => ⟨Nat.zero_le _, h.lt k hk⟩
theorem ownsRow_below {w w' : World} {base : Nat} {e : TypeId} {size n : Nat} {v : Value} {xs : List Value} (h : w.ownsRow base e size v n xs) (hb : Below w.heap.size w w') : w'.ownsRow base e size v n xs :=
  ownsRow_keep0 h fun k hk => hb.block k (h.lt k hk).2
theorem OwnSl.row' {α : Type} {R : Rp α} {w : World} {e : TypeId} {F : List Nat} {A : Option Addr} {n c : Nat} {l : List α} (h : OwnSl R w e F (.slice A n c) l) : ∃ xs, w.ownsRow 0 e R.size (.slice A n c) n xs ∧ (∀ g, A = some ⟨g, 0, none⟩ → g ∈ F) ∧ l.length = n := by
  obtain ⟨xs, h1, h2⟩ := h.row
  have hn := (ownsRow_cases h1).1
  subst hn
  exact ⟨xs, h1, fun g hg => h2 g (by rw [hg]; rfl), rfl⟩

theorem bcell {W w1 : World} (hb : Below W.heap.size W w1) : (∀ b o, b < W.heap.size → w1.cell? ⟨b, o, none⟩ = W.cell? ⟨b, o, none⟩) ∧ (∀ b o, b < W.heap.size → w1.frozen? ⟨b, o, none⟩ = W.frozen? ⟨b, o, none⟩) :=
  ⟨fun b o h => hb.cell (p := ⟨b, o, none⟩) h, fun b o h => hb.frozen (p := ⟨b, o, none⟩) h⟩

theorem OwnSl.nodup {α : Type} {R : Rp α} {w : World} {e : TypeId} {F : List Nat} {v : Value} {l : List α} (h : OwnSl R w e F v l) : F.Nodup := by
  obtain ⟨_, _, _, _, _, h⟩ := h; exact h

theorem nodup_app {F G : List Nat} {m : Nat} (h1 : F.Nodup) (h2 : G.Nodup) (hl : ∀ k, k ∈ F → k < m) (hg : ∀ k, k ∈ G → m ≤ k) : (F ++ G).Nodup := by
  rw [List.nodup_append]
  exact ⟨h1, h2, fun a ha b hb hab => by have := hl a ha; have := hg b hb; omega⟩
theorem mem_sum_le {α : Type} {f : α → Nat} {x : α} : ∀ {l : List α}, x ∈ l → f x ≤ (l.map f).sum
  | y :: l, h => by
    rcases List.mem_cons.1 h with rfl | h
    · simp
    · have := mem_sum_le (f := f) h; simp; omega
theorem sum_take_succ {α : Type} {f : α → Nat} {l : List α} {k : Nat} (hk : k < l.length) : ((l.take (k + 1)).map f).sum = ((l.take k).map f).sum + f l[k] := by
  rw [List.take_succ_eq_append_getElem hk, List.map_append, List.sum_append]; simp

theorem Sl.next {α : Type} {R : Rp α} {w w' : World} {A : Option Addr} {n c : Nat} {l : List α} (h : Sl R w 0 w.heap.size A n c l) (hb : Below w.heap.size w w') : Sl R w' 0 w'.heap.size A n c l :=
  (h.below hb (Nat.le_refl _)).more (Nat.le_refl _) hb.size
/-- The call returns v; what was there is as it was. -/
def RetV (v : Value) (w : World) (e : Ending) (w' : World) : Prop := e = .returned v ∧ Below w.heap.size w w'

theorem wrap_small {n : Int} (h1 : 0 ≤ n) (h2 : n < 9223372036854775808) : wrap64 n = n := by unfold wrap64; omega
theorem byte_bd (c : UInt8) : (0 : Int) ≤ (c.toNat : Int) ∧ (c.toNat : Int) < 256 := by have := c.toNat_lt; omega
theorem int_eq {k : IntKind} {a b : Int} (h : a = b) : Value.int k a = .int k b := by rw [h]
theorem ret_int {k : IntKind} {a b : Int} (h : a = b) : Ending.returned (.int k a) = .returned (.int k b) := by rw [h]
theorem ret_bool {a b : Bool} (h : a = b) : Ending.returned (.bool a) = .returned (.bool b) := by rw [h]
theorem below_alloc {a w : World} (h : Below a.heap.size a w) (o : Obj) : Below a.heap.size a (w.alloc o) := h.alloc h.size o
theorem below_drewN {B : Nat} {a w : World} (h : Below B a w) (n : Nat) : Below B a (w.drewN n) := ⟨h.os, h.tape, h.output, h.size, h.block⟩
theorem take_eq_snoc {α : Type} {l l' : List α} {k : Nat} (h : l.take k = l'.take k) (h1 : k < l.length) (h2 : k < l'.length) (he : l[k] = l'[k]) : l.take (k + 1) = l'.take (k + 1) := by
  rw [List.take_succ_eq_append_getElem h1, List.take_succ_eq_append_getElem h2, h, he]
theorem ne_of_at {α : Type} {l l' : List α} {k : Nat} (h1 : k < l.length) (h2 : k < l'.length) (he : ¬ l[k] = l'[k]) : ¬ l = l' := by
  rintro rfl; exact he rfl
theorem eq_of_takes {α : Type} {l l' : List α} {k : Nat} (h : l.take k = l'.take k) (h1 : l.length ≤ k) (h2 : l'.length ≤ k) : l = l' := by
  rwa [List.take_of_length_le h1, List.take_of_length_le h2] at h
end Go.Proofs.Ytkedpaopnnhinaa
