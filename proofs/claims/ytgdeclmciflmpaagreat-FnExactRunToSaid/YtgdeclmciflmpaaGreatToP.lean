/- A machine's run up to an instruction that raises: plain law. -/
import Derived.Test.YtgdeclmciflmpaaGreatSsD
import Derived.Test.YtgdeclmciflmpaaGreatRaiseG
set_option linter.unusedVariables false
set_option linter.unusedSimpArgs false
set_option maxRecDepth 100000
namespace Go.Proofs.YtgdeclmciflmpaaGreat
open Go.RowKit
def runToM (x : Image) (ins : List Int) (most : Int) : Nat → MS → MS
  | 0, s => s
  | t + 1, s => if s.code = 0 ∧ raiseB x s.fs.reverse s.code = false then runToM x ins most t (stepF x ins most s) else s
theorem runToM_stop {x : Image} {ins : List Int} {most : Int} {s : MS} (h : ¬ (s.code = 0 ∧ raiseB x s.fs.reverse s.code = false)) : ∀ t, runToM x ins most t s = s
  | 0 => rfl
  | t + 1 => by unfold runToM; rw [if_neg h]
theorem runToM_go {x : Image} {ins : List Int} {most : Int} {s : MS} {t : Nat} (h : s.code = 0) (hr : raiseB x s.fs.reverse s.code = false) : runToM x ins most (t + 1) s = runToM x ins most t (stepF x ins most s) := by
  conv => lhs; unfold runToM
  rw [if_pos ⟨h, hr⟩]
/-- Whether a machine that has t steps left goes on. -/
def goB (x : Image) (t : Nat) (s : MS) : Bool := decide (0 < t) && decide (s.code = 0) && !raiseB x s.fs.reverse 0
theorem goB_no {x : Image} {ins : List Int} {most : Int} {t : Nat} {s : MS} (h : goB x t s = false) : runToM x ins most t s = s := by
  rcases t with _ | u
  · rfl
  · refine runToM_stop (fun hc => ?_) _
    unfold goB at h
    obtain ⟨h1, h2⟩ := hc
    rw [h1] at h2
    rw [h1, h2] at h
    simp at h
theorem goB_yes {x : Image} {ins : List Int} {most : Int} {t : Nat} {s : MS} (h : goB x t s = true) : ∃ u, t = u + 1 ∧ s.code = 0 ∧ runToM x ins most t s = runToM x ins most u (stepF x ins most s) := by
  unfold goB at h
  simp only [Bool.and_eq_true, decide_eq_true_eq, Bool.not_eq_true'] at h
  obtain ⟨⟨h1, h2⟩, h3⟩ := h
  obtain ⟨u, rfl⟩ : ∃ u, t = u + 1 := ⟨t - 1, by omega⟩
  exact ⟨u, rfl, h2, runToM_go h2 (by rw [h2]; exact h3)⟩
noncomputable def runToR (x : Image) (ins : List Int) (most ticks : Int) : Vm := if askB x ins most = true ∧ inB ticks 0 60000 = true then vmOf (runToM x ins most ticks.toNat (newM x)) else vm0
/-- The last frame of a machine that is about to step. -/
theorem top_last {x : Image} {ins : List Int} {most : Int} {N : Nat} {s : MS} {f : Frame} {rest : List Frame} (R : Rdy x ins most N s f rest) :
    s.code = 0 → ∃ (u : Nat) (hu : u < s.fs.reverse.length), u + 1 = s.fs.reverse.length ∧ frB x s.fs.reverse[u] = true ∧ ((s.fs.reverse[u]).2.2.2.1.length : Int) = hv (checkH x (codeD x (s.fs.reverse[u]).2.1)) (s.fs.reverse[u]).2.2.1 := fun _ => by
  have hl : s.fs.reverse.length = rest.length + 1 := by rw [R.fs]; simp
  have e : s.fs.reverse[rest.length]'(by omega) = f := by simp [R.fs]
  refine ⟨rest.length, by omega, by omega, ?_⟩
  rw [e]
  exact R.top
theorem runToM_ok {x : Image} {ins : List Int} {most : Int} (hg : goodI x = true) (hin : ins.all small = true) (hm : most ≤ 12) : ∀ (t N : Nat) (s : MS), N + t ≤ 1000000 → MOk x ins N s → ∃ N', N' ≤ N + t ∧ MOk x ins N' (runToM x ins most t s)
  | 0, N, s, _, h => ⟨N, Nat.le_refl _, h⟩
  | t + 1, N, s, hN, h => by
    unfold runToM
    by_cases hc : s.code = 0 ∧ raiseB x s.fs.reverse s.code = false
    · rw [if_pos hc]
      obtain ⟨N', h1, h2⟩ := runToM_ok hg hin hm t (N + 1) _ (by omega) (step_ok hg hin (by omega) hm h hc.1)
      exact ⟨N', by omega, h2⟩
    · rw [if_neg hc]
      exact ⟨N, by omega, h⟩
/-- How much a run's result weighs. -/
theorem runToR_sz (x : Image) (ins : List Int) (most ticks : Int) : mszLFrame (runToR x ins most ticks).1 + (runToR x ins most ticks).2.1.length + (runToR x ins most ticks).2.2.2.2.2.2.length ≤ 1000000 := by
  unfold runToR
  split
  · rename_i hq
    have hgood : goodI x = true := by have := hq.1; unfold askB at this; simp only [Bool.and_eq_true] at this; exact this.1.1.1
    have hins : ins.all small = true := by have := hq.1; unfold askB at this; simp only [Bool.and_eq_true] at this; exact this.1.2
    have hmost := inB_iff.1 (show inB most 1 12 = true by have := hq.1; unfold askB at this; simp only [Bool.and_eq_true] at this; exact this.2)
    have htk := inB_iff.1 hq.2
    obtain ⟨N', hN', hok⟩ := runToM_ok (most := most) hgood hins (by omega) ticks.toNat 1 (newM x) (by omega) (newM_ok hgood)
    obtain ⟨s, hs⟩ : ∃ s, runToM x ins most ticks.toNat (newM x) = s := ⟨_, rfl⟩
    rw [hs] at hok ⊢
    have h1 := hok.many
    have h2 := hok.tr.1
    have h3 := hok.notes
    have h4 := sum_le50 mszFrame s.fs.reverse fun f hf => by
      have hf' : f ∈ s.fs := by simpa using hf
      have h9 := hok.lens f hf'
      have h8 := frW hgood h9.1
      have := h8.vl
      have := h8.fl
      have := h8.sl
      have h7 := h9.2
      unfold fPile at h7
      unfold mszFrame
      omega
    rw [List.length_reverse] at h4
    show s.fs.reverse.length + (s.fs.reverse.map mszFrame).sum + s.tr.length + s.notes.length ≤ 1000000
    rw [List.length_reverse]
    omega
  · simp [vm0, mszLFrame]
end Go.Proofs.YtgdeclmciflmpaaGreat
