/- slices.Replace of three tokens by one. Walk. -/
import Derived.Test.YthdpkcmeepabjaaCloneT
import Derived.Deep.RegionLaw
import Derived.Deep.QuietTactic
import Derived.BigQuiet
import Derived.IntWalk
import Derived.StillTailTactics
set_option linter.unusedVariables false
set_option linter.unusedSimpArgs false
set_option maxRecDepth 100000
namespace Go.Proofs.Ythdpkcmeepabjaa
open Go.RowKit
theorem zeroTok (w : World) : (zeroValue 202).run Try.prog w = .ok (.agg #[.int .i64 0, .int .i64 0]) w := by kernel_rfl
theorem zerosTok_len (n : Nat) : (zerosL [.int .i64 0, .int .i64 0] n).length = n * 2 := by simp [zerosL, Builtin.zeroCells, Nat.mul_comm]
theorem zerosTok_one (n : Nat) : ∀ v ∈ zerosL [.int .i64 0, .int .i64 0] n, v.oneCell' = true := by
  intro v hv
  simp [zerosL, Builtin.zeroCells] at hv
  obtain ⟨i, _, rfl⟩ := hv
  rcases Nat.mod_two_eq_zero_or_one i with h | h <;> simp [h, Value.oneCell']
theorem encL_take : ∀ (l : List Tok) (k : Nat), (encL insV l).take (k * 2) = encL insV (l.take k)
  | [], k => by simp [encL]
  | x :: l, 0 => by simp [encL]
  | x :: l, k + 1 => by
    have := encL_take l k
    rw [List.take_succ_cons, encL_cons, encL_cons, ← this, List.take_append, List.take_of_length_le (by rw [insV_len]; omega), insV_len, show (k + 1) * 2 - 2 = k * 2 by omega]
theorem encL_drop : ∀ (l : List Tok) (k : Nat), (encL insV l).drop (k * 2) = encL insV (l.drop k)
  | [], k => by simp [encL]
  | x :: l, 0 => by simp [encL]
  | x :: l, k + 1 => by
    have := encL_drop l k
    rw [List.drop_succ_cons, encL_cons, ← this, List.drop_append, List.drop_of_length_le (by rw [insV_len]; omega), insV_len, show (k + 1) * 2 - 2 = k * 2 by omega, List.nil_append]
theorem splice_take {α : Type} (L cs : List α) (off m : Nat) (h : m ≤ off) (h2 : off ≤ L.length) : (splice L off cs).take m = L.take m := by
  unfold splice
  rw [List.take_append, List.length_take, Nat.min_eq_left h2, show m - off = 0 by omega, List.take_zero, List.append_nil, List.take_take, Nat.min_eq_left h]
theorem splice_upto {α : Type} (L cs : List α) (off : Nat) (h2 : off ≤ L.length) : (splice L off cs).take (off + cs.length) = L.take off ++ cs := by
  unfold splice
  rw [List.take_append, List.length_take, Nat.min_eq_left h2, List.take_take, Nat.min_eq_right (by omega), show off + cs.length - off = cs.length by omega, List.take_left]
theorem splice_drop {α : Type} (L cs : List α) (off m : Nat) (h : off + cs.length ≤ m) (h2 : off ≤ L.length) : (splice L off cs).drop m = L.drop m := by
  unfold splice
  rw [List.drop_append, List.length_take, Nat.min_eq_left h2, List.drop_of_length_le (by rw [List.length_take]; omega), List.nil_append, List.drop_append, List.drop_of_length_le (by omega), List.nil_append, List.drop_drop]
  congr 1; omega
theorem cur_take {cur : List Value} {l : List Tok} {n k : Nat} (h : cur.take (n * 2) = encL insV l) (hk : k ≤ n) : cur.take (k * 2) = encL insV (l.take k) := by
  rw [← encL_take, ← h, List.take_take, Nat.min_eq_left (by omega)]
theorem cur_drop {cur : List Value} {l : List Tok} {n k : Nat} (h : cur.take (n * 2) = encL insV l) (hk : k ≤ n) : (cur.drop (k * 2)).take ((n - k) * 2) = encL insV (l.drop k) := by
  rw [← encL_drop, ← h, List.drop_take]
  congr 1; omega
/-- Three tokens from k on become one: the row's first cells are so, nothing else has turned. -/
def RetRep (g n c k : Nat) (l : List Tok) (t : Tok) (w : World) (e : Ending) (w' : World) : Prop :=
  e = .returned (.slice (some ⟨g, 0, none⟩) (n - 2) c) ∧ (∃ cur, w'.heap[g]? = some (.cells cur 202 (0, 0)) ∧ cur.size = c * 2 ∧ cur.toList.take ((n - 2) * 2) = encL insV (l.take k ++ (t :: l.drop (k + 3)))) ∧ Fr [g] w w'
set_option maxHeartbeats 4000000 in
theorem replToks (w : World) (g n c k b : Nat) (cur : List Value) (l : List Tok) (p q : Int) (hg : w.heap[g]? = some (.cells cur.toArray 202 (0, 0))) (hc : cur.length = c * 2) (hnc : n ≤ c) (hcm : c ≤ maxLen) (hl : l.length = n) (hcur : cur.take (n * 2) = encL insV l) (hk : k + 3 ≤ n) (hn : n ≤ 12)
    (b0 : w.cell? ⟨b, 0, none⟩ = some (.int .i64 p)) (b1 : w.cell? ⟨b, 1, none⟩ = some (.int .i64 q)) (hbg : ¬ b = g) :
    Calls Try.prog 146 #[.slice (some ⟨g, 0, none⟩) n c, .int .i64 k, .int .i64 ((k : Int) + 3), .slice (some ⟨b, 0, none⟩) 1 1] w (RetRep g n c k l (p, q) w) := by
  unfold maxLen at hcm
  obtain ⟨inf, hif, hz0, hz1, hz2⟩ := info_parts Try.infoTok2
  have HIF := Lib.hid hif
  have HZ1 := Lib.hid hz1
  have hsz : (Try.prog.info? 202).map (·.size) = some 2 := by rw [hif]; simp [hz1]
  have HSZ := Lib.hid hsz
  have HC := Lib.hid hc
  have HL := Lib.hid hl
  have HCU := Lib.hid hcur
  have hnews : ∀ j u, ([.int .i64 p, .int .i64 q] : List Value)[j]? = some u → w.cell? ((⟨b, 0, none⟩ : Addr).add j) = some u := by
    intro j u hu
    match j, hu with
    | 0, hu => simp at hu; subst hu; exact b0
    | 1, hu => simp at hu; subst hu; exact b1
    | j + 2, hu => simp at hu
  have HN := Lib.hid hnews
  have h1c : ∀ v ∈ ([.int .i64 p, .int .i64 q] : List Value), v.oneCell' = true := by intro u hu; simp at hu; rcases hu with rfl | rfl <;> rfl
  have H1 := Lib.hid h1c
  have HG := Lib.hid hg
  clear hif hz0 hz1 hz2 hsz hc hl hcur hnews h1c hg b0 b1
  by_cases hj : k + 3 = n
  · subst hj
    have e2 : k + 3 - 2 = k + 1 := by omega
    rw [e2] at *
    clear e2
    go_enter Try.func146, Try.ntmps146
    go_wp2_with (at_builtin; refine wpList_roomS rfl _ _ 117 rfl 202 inf 2 Try.underlying117 HIF.out HZ1.out g k c cur rfl HG.out ⟨b, 0, none⟩ 1 1 [.int .i64 p, .int .i64 q] rfl rfl HN.out H1.out (by omega) (by have := HC.out; simp; omega) ?_)
    intro w2 HW2
    have hA := setRow_at HG.out HW2.out
    have HG2 := Lib.hid hA.1
    have hF2 := hA.2
    have hl2 : (splice cur (k * 2) [.int .i64 p, .int .i64 q]).length = c * 2 := by rw [length_splice _ _ _ (by have := HC.out; simp; omega)]; exact HC.out
    have HL2 := Lib.hid hl2
    clear hA hl2 HW2
    go_wp2_with (refine wpList_clearS rfl (.tmp 43) 117 rfl 202 (.agg #[.int .i64 0, .int .i64 0]) [.int .i64 0, .int .i64 0] Try.underlying117 zeroTok rfl g ((k + 1) * 2) _ _ (by omega) rfl _ HG2.out (by rw [zerosTok_len, HL2.out]; omega) (zerosTok_one _) ?_)
    intro w3 HW3
    have hA := setRow_at HG2.out HW3.out
    have HG3 := Lib.hid hA.1
    have hF3 := hF2.trans hA.2
    clear hA HW3
    go_wp2_with fail
    go_ret
    refine ⟨rfl, ⟨_, HG3.out, ?_, ?_⟩, hF3⟩
    · have := HL2.out; simp; rw [length_splice _ _ _ (by rw [zerosTok_len]; omega)]; exact this
    · have hc := HC.out
      have hl2 := HL2.out
      rw [List.toList_toArray, show k + 3 - 2 = k + 1 by omega, splice_take _ _ _ _ (Nat.le_refl _) (by omega), show (k + 1) * 2 = k * 2 + ([.int .i64 p, .int .i64 q] : List Value).length by simp; omega, splice_upto _ _ _ (by omega), cur_take HCU.out (by omega), List.drop_of_length_le (by have := HL.out; omega), encL_append]
      rfl
  · have hj1 : ((k : Int) + 3 == (n : Int)) = false := by simp; omega
    go_enter Try.func146, Try.ntmps146
    go_wp2_with fail
    go_quiet (fail)
    obtain ⟨W, hW⟩ : ∃ W, W = w.drewN nq := ⟨_, rfl⟩
    have HGW : Hid (W.heap[g]? = some (.cells cur.toArray 202 (0, 0))) := Lib.hid (by rw [hW]; exact HG.out)
    have HNW := Lib.hid (show ∀ j u, ([.int .i64 p, .int .i64 q] : List Value)[j]? = some u → W.cell? ((⟨b, 0, none⟩ : Addr).add j) = some u by rw [hW]; exact HN.out)
    have hFW : Fr [g] w W := by rw [hW]; exact Fr.drewN (Fr.refl _ _) _
    rw [← hW]
    clear hW
    go_wp2_with (refine wpList_copyS rfl (.tmp 95) (.tmp 96) 117 117 rfl 202 2 Try.underlying117 HSZ.out g (k * 2) (k + 1 + (n - (k + 3)) - k) (c - k) ⟨b, 0, none⟩ 1 1 rfl rfl cur 202 HGW.out [.int .i64 p, .int .i64 q] (by rw [show Nat.min 1 (k + 1 + (n - (k + 3)) - k) = 1 from Nat.min_eq_left (by omega)]; rfl) HNW.out (by have := HC.out; simp; omega) H1.out ?_)
    intro w2 HW2
    have hA := setRow_at HGW.out HW2.out
    have HG2 := Lib.hid hA.1
    have hF2 := hFW.trans hA.2
    obtain ⟨C1, hC1⟩ : ∃ C1, C1 = splice cur (k * 2) [.int .i64 p, .int .i64 q] := ⟨_, rfl⟩
    have HC1 := Lib.hid hC1
    have hl2 : C1.length = c * 2 := by rw [hC1, length_splice _ _ _ (by have := HC.out; simp; omega)]; exact HC.out
    have HL2 := Lib.hid hl2
    rw [← hC1] at HG2
    clear hA hl2 HW2 HGW HNW hFW hC1
    have hcs : (C1.drop ((k + 3) * 2)).take ((n - (k + 3)) * 2) = encL insV (l.drop (k + 3)) := by
      rw [HC1.out, splice_drop _ _ _ _ (by simp; omega) (by have := HC.out; omega), cur_drop HCU.out hk]
    obtain ⟨cs, hcs0⟩ : ∃ cs, cs = (C1.drop ((k + 3) * 2)).take ((n - (k + 3)) * 2) := ⟨_, rfl⟩
    rw [← hcs0] at hcs
    have hcl : cs.length = (n - (k + 3)) * 2 := by rw [hcs, encL_len insV_len, List.length_drop, HL.out]
    have HCS := Lib.hid hcs
    have HCL := Lib.hid hcl
    have H1c : Hid (∀ v ∈ cs, v.oneCell' = true) := Lib.hid (by rw [hcs]; exact encL_one' insV_one)
    have hsrc : ∀ j v, cs[j]? = some v → w2.cell? ((⟨g, (k + 3) * 2, none⟩ : Addr).add j) = some v := by
      intro j v hv
      refine row_cells HG2.out ((k + 3) * 2) j v ?_
      rw [hcs0, List.getElem?_take] at hv
      split at hv
      · exact hv
      · cases hv
    have HSR := Lib.hid hsrc
    clear hcs hcl hsrc hcs0
    go_wp2_with fail
    have s0 : (k : Int) + 1 ≤ (k : Int) + 1 + ((n - (k + 3) : Nat) : Int) := by omega
    have s7 : ¬ c = k + 1 := by omega
    have s8 : ¬ c = k + 3 := by omega
    have s4 : (0 : Int) ≤ (k : Int) + 3 := by omega
    have s5 : (k : Int) + 3 ≤ (n : Int) := by omega
    have s6 : ((k : Int) + 3).toNat = k + 3 := by omega
    have s2 : (0 : Int) ≤ (k : Int) + 1 := by omega
    have s3 : ((k : Int) + 1).toNat = k + 1 := by omega
    have s1 : IntKind.i64.wrap ((k : Int) + 1) = (k : Int) + 1 := IntWalk.i64_in _ (by omega)
    have hmin : cs.length = Nat.min (n - (k + 3)) (n - (k + 3)) * 2 := by rw [HCL.out]; congr 1; exact (Nat.min_self _).symm
    have HM := Lib.hid hmin
    have hfit : (k + 1) * 2 + cs.length ≤ C1.length := by have := HCL.out; have := HL2.out; omega
    have HFI := Lib.hid hfit
    clear hmin hfit
    go_still_tail 9, (by kernel_rfl)
    change wpList _ _ _ _ _ w2.drew
    have HG3 : Hid (w2.drew.heap[g]? = some (.cells C1.toArray 202 (0, 0))) := Lib.hid HG2.out
    have HSR3 : Hid (∀ j v, cs[j]? = some v → w2.drew.cell? ((⟨g, (k + 3) * 2, none⟩ : Addr).add j) = some v) := Lib.hid HSR.out
    have hF3 : Fr [g] w w2.drew := hF2.drew
    clear s0 s1 s2 s3 s4 s5 s6 s7 s8 HG2 HSR hF2
    generalize w2.drew = w3 at HG3 HSR3 hF3 ⊢
    refine wpList_copyS rfl (.tmp 103) (.tmp 106) 117 117 rfl 202 2 Try.underlying117 HSZ.out g ((k + 1) * 2) (n - (k + 3)) (c - (k + 1)) ⟨g, (k + 3) * 2, none⟩ (n - (k + 3)) (c - (k + 3)) ?_ ?_ C1 202 HG3.out cs HM.out HSR3.out HFI.out H1c.out ?_
    · rfl
    · rfl
    intro w4 HW4
    have hA := setRow_at HG3.out HW4.out
    have HG4 := Lib.hid hA.1
    have hF4 := hF3.trans hA.2
    have hl4 : (splice C1 ((k + 1) * 2) cs).length = c * 2 := by rw [length_splice _ _ _ HFI.out]; exact HL2.out
    have HL4 := Lib.hid hl4
    obtain ⟨C2, hC2⟩ : ∃ C2, C2 = splice C1 ((k + 1) * 2) cs := ⟨_, rfl⟩
    have HC2 := Lib.hid hC2
    rw [← hC2] at HG4 HL4
    clear hA hl4 HW4 HG3 HSR3 hF3 hC2
    have t1 : ((k : Int) + 1 + ((n - (k + 3) : Nat) : Int)).toNat = n - 2 := by omega
    have t2 : (0 : Int) ≤ (k : Int) + 1 + ((n - (k + 3) : Nat) : Int) := by omega
    have t3 : (k : Int) + 1 + ((n - (k + 3) : Nat) : Int) ≤ (n : Int) := by omega
    have t4 : ¬ c = n - 2 := by omega
    go_wp2_with (refine wpList_clearS rfl (.tmp 110) 117 rfl 202 (.agg #[.int .i64 0, .int .i64 0]) [.int .i64 0, .int .i64 0] Try.underlying117 zeroTok rfl g ((n - 2) * 2) _ _ ?_ rfl _ HG4.out ?_ (zerosTok_one _) ?_)
    · omega
    · rw [zerosTok_len, HL4.out]; omega
    intro w5 HW5
    have hA := setRow_at HG4.out HW5.out
    have HG5 := Lib.hid hA.1
    have hF5 := hF4.trans hA.2
    have en : k + 1 + (n - (k + 3)) = n - 2 := by omega
    clear hA HW5 HG4 hF4 t1 t2 t3 t4
    go_wp2_with fail
    refine bodyPost_ret (v := .slice (some ⟨g, 0, none⟩) (n - 2) c) (by simp [results, Try.results146, go_sem]; omega) rfl ?_
    refine ⟨rfl, ⟨_, HG5.out, ?_, ?_⟩, hF5⟩
    · have := HL4.out; simp; rw [length_splice _ _ _ (by rw [zerosTok_len]; omega)]; exact this
    · have hc := HC.out
      have hl2 := HL2.out
      have hl4 := HL4.out
      have hcl := HCL.out
      rw [List.toList_toArray, splice_take _ _ _ _ (Nat.le_refl _) (by omega), HC2.out, show (n - 2) * 2 = (k + 1) * 2 + cs.length by omega, splice_upto _ _ _ (by omega), HC1.out, show (k + 1) * 2 = k * 2 + ([.int .i64 p, .int .i64 q] : List Value).length by simp; omega, splice_upto _ _ _ (by omega), cur_take HCU.out (by omega), HCS.out, encL_append, encL_cons, List.append_assoc]
      rfl
end Go.Proofs.Ythdpkcmeepabjaa
