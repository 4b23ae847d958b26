/- What the functions of the law 'WordNumbers' do: part 13. -/
import Derived.Test.YtcehpodknbjimaaDoorNumL
namespace Go.Proofs.YtcehpodknbjimaaDoor.IrN
open Go Go.CI
set_option maxRecDepth 100000
set_option linter.unusedVariables false
set_option linter.unusedSimpArgs false

theorem wc_run {T : Nat → Option CFn} {m f : Nat} {args : List CVal} {h h' : CHeap} {v : CVal} (hr : crunF T m f args h = some (v, h')) {K : CVal → CHeap → Prop} (hk : K v h') : Wc T f args h K :=
  ⟨_, _, ⟨m, by have := hr; rw [crunF_eq] at this; exact this⟩, hk⟩
theorem wc_true {T : Nat → Option CFn} {m f n : Nat} {args : List CVal} (hr : (match crunF T m f args ⟨[], n, []⟩ with | some (.bool true, ⟨[], k, []⟩) => decide (n ≤ k) | _ => false) = true) {K : CVal → CHeap → Prop} (hk : ∀ n', n ≤ n' → K (.bool true) ⟨[], n', []⟩) : Wc T f args ⟨[], n, []⟩ K := by
  split at hr
  · rename_i k e
    exact ⟨_, _, ⟨m, by have := e; rw [crunF_eq] at this; exact this⟩, hk k (by simpa using hr)⟩
  · cases hr
attribute [local irreducible] W Wo Wc

abbrev tok3 (v : Nat) (e : Int) : CVal := .tup [.imm .none 4 [.agg [.int .i64 2, .str [], .int .u64 v, .int .i64 0], .agg [.int .i64 4, .str [59], .int .u64 0, .int .i64 (e + 1)], .agg [.int .i64 5, .str [], .int .u64 0, .int .i64 (e + 2)]], .int .i64 0, .int .i64 0]
theorem ok48 : okDig 8 48 := ⟨.inl ⟨by decide, by decide⟩, by decide⟩
theorem chead {B x : Nat} {hB : 2 ≤ B} (hB2 : B ≤ 10) : ∃ c r, digs B x hB = c :: r ∧ c ∈ D10 := by
  cases hc : digs B x hB with
  | nil => exact absurd hc (digs_ne _ _ _)
  | cons c r =>
    refine ⟨c, r, rfl, dig10 ?_⟩
    have := digs_ok B hB (by omega) x c (by rw [hc]; simp)
    exact ⟨this.1, by have := this.2; omega⟩
theorem lex10 (v : Nat) (hv : v < 18446744073709551616) (h : CHeap) (hu : Under h.ents h.next) (K : CVal → CHeap → Prop) (hk : ∀ n' (e : Int), h.next ≤ n' → K (tok3 v e) { h with next := n' }) : Wc tree.getF 10 [.str (digs 10 v (by omega) ++ [32, 59])] h K := by
  have hl := digs_len64 10 v (by omega) hv
  have hval := digs_val 10 (by omega) (by omega) v
  obtain ⟨c, r, hcr, hc⟩ := chead (B := 10) (x := v) (hB := by omega) (by omega)
  refine lex_spec _ (r ++ [32, 59]) c (digs 10 v (by omega)).length (.agg [.int .i64 2, .str [], .int .u64 v, .int .i64 0]) rfl rfl (by simp; omega) (by rw [hcr]; rfl) hc List.drop_left ?_ h hu K fun n' hn' => hk n' _ hn'
  intro p d to h hg hu hp K hk
  rcases Nat.eq_zero_or_pos v with rfl | hv0
  · have e0 : digs 10 0 (by omega) = [48] := digs_small (by omega)
    rw [e0] at hg hk
    exact number8 p d ([48] ++ [32, 59]) [48] [59] 0 to (by decide) rfl (by intro c hc; simp at hc; subst hc; exact ok48) (by simp) (by decide) ⟨[], rfl⟩ h hg hu hp K (by simpa [show val 8 0 [48] = 0 by decide] using hk)
  · refine number10 p d _ (digs 10 v (by omega)) [59] 0 to (by simp; omega) rfl (digs_ok 10 (by omega) (by omega) v) (digs_ne _ _ _) (by rw [hval]; exact hv) (digs_head 10 (by omega) (by omega) v hv0) h hg hu hp K ?_
    rw [hval]
    simpa using hk
theorem lex8 (v : Nat) (hv : v < 18446744073709551616) (h : CHeap) (hu : Under h.ents h.next) (K : CVal → CHeap → Prop) (hk : ∀ n' (e : Int), h.next ≤ n' → K (tok3 v e) { h with next := n' }) : Wc tree.getF 10 [.str (48 :: (digs 8 v (by omega) ++ [32, 59]))] h K := by
  have hl := digs_len64 8 v (by omega) hv
  have hval : val 8 0 (48 :: digs 8 v (by omega)) = v := digs_val 8 (by omega) (by omega) v
  refine lex_spec _ (digs 8 v (by omega) ++ [32, 59]) 48 ((digs 8 v (by omega)).length + 1) (.agg [.int .i64 2, .str [], .int .u64 v, .int .i64 0]) rfl rfl (by simp; omega) rfl (by simp) List.drop_left ?_ h hu K fun n' hn' => hk n' _ hn'
  intro p d to h hg hu hp K hk
  refine number8 p d _ (48 :: digs 8 v (by omega)) [59] 0 to (by simp; omega) rfl ?_ (by simp) (by rw [hval]; exact hv) ⟨_, rfl⟩ h hg hu hp K ?_
  · intro c hc
    rcases List.mem_cons.1 hc with rfl | hc
    · exact ok48
    · exact digs_ok 8 (by omega) (by omega) v c hc
  · rw [hval]
    simpa using hk
theorem lex16 (v : Nat) (hv : v < 18446744073709551616) (h : CHeap) (hu : Under h.ents h.next) (K : CVal → CHeap → Prop) (hk : ∀ n' (e : Int), h.next ≤ n' → K (tok3 v e) { h with next := n' }) : Wc tree.getF 10 [.str (48 :: 120 :: (digs 16 v (by omega) ++ [32, 59]))] h K := by
  have hl := digs_len64 16 v (by omega) hv
  have hval := digs_val 16 (by omega) (by omega) v
  refine lex_spec _ (120 :: (digs 16 v (by omega) ++ [32, 59])) 48 ((digs 16 v (by omega)).length + 2) (.agg [.int .i64 2, .str [], .int .u64 v, .int .i64 0]) rfl rfl (by simp; omega) rfl (by simp) List.drop_left ?_ h hu K fun n' hn' => hk n' _ hn'
  intro p d to h hg hu hp K hk
  refine number16 p d _ (digs 16 v (by omega)) [59] 0 to (by simp; omega) rfl (digs_ok 16 (by omega) (by omega) v) (digs_ne _ _ _) (by rw [hval]; exact hv) h hg hu hp K ?_
  rw [hval]
  have e2 : ((0 : Nat) : Int) + ((2 + (digs 16 v (by omega)).length : Nat) : Int) = (((digs 16 v (by omega)).length + 2 : Nat) : Int) := by omega
  rw [e2]
  exact hk
end Go.Proofs.YtcehpodknbjimaaDoor.IrN
