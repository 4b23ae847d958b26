/- What the functions of the law 'PfileMost' do: part 6 of 8. -/
import Derived.Test.YtjecpdnjpggcoaaGreatDoorLx5
namespace Go.Proofs.YtjecpdnjpggcoaaGreatDoor.IrM
open Go Go.CI
open Go.LexF hiding spacesB lettersB
set_option maxRecDepth 100000
set_option linter.unusedVariables false
set_option linter.unusedSimpArgs false
theorem fx6 {h : CHeap} {p : Nat} {oP : CObj} (hf : Fit h) (hg : zA2 h.ents p = some oP) : (zA2 h.ents p = some oP) ∧ (∀ x, zA2 (zA0 h.ents p x) p = some x) ∧ (∀ x m, h.next ≤ m → zAx (zA0 h.ents p x) m = zA0 h.ents p x) ∧ (∀ x m, h.next ≤ m → zAc (zA0 h.ents p x) m = zA0 h.ents p x) ∧ (∀ x q, h.next ≤ q → zA2 (zA0 h.ents p x) q = none) := ⟨hg, fx5 hf hg⟩
theorem fxq {h : CHeap} {p q : Nat} {oP oQ : CObj} (hf : Fit h) (hpq : p ≠ q) (hg : zA2 h.ents p = some oP) (hq : zA2 h.ents q = some oQ) : zA2 h.ents p = some oP ∧ (∀ x, zA2 (zA0 h.ents p x) p = some x) ∧ (∀ x m, h.next ≤ m → zAx (zA0 h.ents p x) m = zA0 h.ents p x) ∧ (∀ x m, h.next ≤ m → zAc (zA0 h.ents p x) m = zA0 h.ents p x) ∧ (∀ x q, h.next ≤ q → zA2 (zA0 h.ents p x) q = none) ∧ zA2 h.ents q = some oQ ∧ (∀ x, zA2 (zA0 h.ents p x) q = some oQ) ∧ (∀ x y, zA2 (zA0 (zA0 h.ents p x) q y) q = some y) ∧ (∀ x y, zA2 (zA0 (zA0 h.ents p x) q y) p = some x) ∧ (∀ x y z, zA0 (zA0 (zA0 h.ents p x) q y) p z = zA0 (zA0 h.ents p z) q y) ∧ (∀ x y m, h.next ≤ m → zAc (zA0 (zA0 h.ents p x) q y) m = zA0 (zA0 h.ents p x) q y) := by
 have hu := hf.1
 obtain ⟨hG, hD2, hC2, hN2⟩ := fx5 hf hg
 have hqp : q ≠ p := fun e => hpq e.symm
 have hq2 : ∀ x, zA2 (zA0 h.ents p x) q = some oQ := fun x => (zA1 hqp).trans hq
 have hQ : ∀ x y, zA2 (zA0 (zA0 h.ents p x) q y) q = some y := fun x y => zA7 (hq2 x)
 have hQP : ∀ x y, zA2 (zA0 (zA0 h.ents p x) q y) p = some x := fun x y => (zA1 hpq).trans (hG x)
 have hPQ : ∀ x y z, zA0 (zA0 (zA0 h.ents p x) q y) p z = zA0 (zA0 h.ents p z) q y := fun x y z => by rw [zAw hqp, zAj]
 have hC3 : ∀ x y m, h.next ≤ m → zAc (zA0 (zA0 h.ents p x) q y) m = zA0 (zA0 h.ents p x) q y := fun x y m hm => zAh (hu.set.set.le hm)
 exact ⟨hg, hG, hD2, hC2, hN2, hq, hq2, hQ, hQP, hPQ, hC3⟩
theorem fxn {h : CHeap} {p q : Nat} {oP oQ : CObj} (hf : Fit h) (hpq : p ≠ q) (hg : zA2 h.ents p = some oP) (hq : zA2 h.ents q = some oQ) : zA2 h.ents p = some oP ∧ (∀ x, zA2 (zA0 h.ents p x) p = some x) ∧ (∀ x m, h.next ≤ m → zAx (zA0 h.ents p x) m = zA0 h.ents p x) ∧ (∀ x m, h.next ≤ m → zAc (zA0 h.ents p x) m = zA0 h.ents p x) ∧ (∀ x q, h.next ≤ q → zA2 (zA0 h.ents p x) q = none) ∧ zA2 h.ents q = some oQ ∧ (∀ x, zA2 (zA0 h.ents p x) q = some oQ) ∧ (∀ x y, zA2 (zA0 (zA0 h.ents p x) q y) q = some y) ∧ (∀ x y, zA2 (zA0 (zA0 h.ents p x) q y) p = some x) ∧ (∀ x y z, zA0 (zA0 (zA0 h.ents p x) q y) p z = zA0 (zA0 h.ents p z) q y) ∧ (∀ x y m, h.next ≤ m → zAc (zA0 (zA0 h.ents p x) q y) m = zA0 (zA0 h.ents p x) q y) ∧ (∀ x y z, h.next ≤ z → zA2 (zA0 (zA0 h.ents p x) q y) z = none) := by
 have hu := hf.1
 obtain ⟨hG, hD2, hC2, hN2⟩ := fx5 hf hg
 have hqp : q ≠ p := fun e => hpq e.symm
 have hq2 : ∀ x, zA2 (zA0 h.ents p x) q = some oQ := fun x => (zA1 hqp).trans hq
 have hQ : ∀ x y, zA2 (zA0 (zA0 h.ents p x) q y) q = some y := fun x y => zA7 (hq2 x)
 have hQP : ∀ x y, zA2 (zA0 (zA0 h.ents p x) q y) p = some x := fun x y => (zA1 hpq).trans (hG x)
 have hPQ : ∀ x y z, zA0 (zA0 (zA0 h.ents p x) q y) p z = zA0 (zA0 h.ents p z) q y := fun x y z => by rw [zAw hqp, zAj]
 have hC3 : ∀ x y m, h.next ≤ m → zAc (zA0 (zA0 h.ents p x) q y) m = zA0 (zA0 h.ents p x) q y := fun x y m hm => zAh (hu.set.set.le hm)
 have hN3 : ∀ x y z, h.next ≤ z → zA2 (zA0 (zA0 h.ents p x) q y) z = none := fun x y z hz => getEnt_under hu.set.set hz
 exact ⟨hg, hG, hD2, hC2, hN2, hq, hq2, hQ, hQP, hPQ, hC3, hN3⟩
theorem fxi {h : CHeap} {p q : Nat} {oP oQ : CObj} (hf : Fit h) (hpq : p ≠ q) (hg : zA2 h.ents p = some oP) (hq : zA2 h.ents q = some oQ) {iq vq : Nat} (hti : zA2 h.ents iq = some (.tok vq)) (hip : iq ≠ p) (hiq : iq ≠ q) : zA2 h.ents p = some oP ∧ (∀ x, zA2 (zA0 h.ents p x) p = some x) ∧ (∀ x m, h.next ≤ m → zAx (zA0 h.ents p x) m = zA0 h.ents p x) ∧ (∀ x m, h.next ≤ m → zAc (zA0 h.ents p x) m = zA0 h.ents p x) ∧ (∀ x q, h.next ≤ q → zA2 (zA0 h.ents p x) q = none) ∧ zA2 h.ents q = some oQ ∧ (∀ x, zA2 (zA0 h.ents p x) q = some oQ) ∧ (∀ x y, zA2 (zA0 (zA0 h.ents p x) q y) q = some y) ∧ (∀ x y, zA2 (zA0 (zA0 h.ents p x) q y) p = some x) ∧ (∀ x y z, zA0 (zA0 (zA0 h.ents p x) q y) p z = zA0 (zA0 h.ents p z) q y) ∧ (∀ x y m, h.next ≤ m → zAc (zA0 (zA0 h.ents p x) q y) m = zA0 (zA0 h.ents p x) q y) ∧ zA2 h.ents iq = some (.tok vq) ∧ iq ≠ p ∧ iq ≠ q ∧ (∀ x, zA2 (zA0 h.ents p x) iq = some (.tok vq)) ∧ (∀ x t, zA2 (zA0 (zA0 h.ents p x) iq t) iq = some t) ∧ (∀ x t, zA2 (zA0 (zA0 h.ents p x) iq t) q = some oQ) ∧ (∀ x t y, zA2 (zA0 (zA0 (zA0 h.ents p x) iq t) q y) q = some y) ∧ (∀ x t y, zA2 (zA0 (zA0 (zA0 h.ents p x) iq t) q y) p = some x) ∧ (∀ x t y z, zA0 (zA0 (zA0 (zA0 h.ents p x) iq t) q y) p z = zA0 (zA0 (zA0 h.ents p z) iq t) q y) ∧ (∀ x t y m, h.next ≤ m → zAc (zA0 (zA0 (zA0 h.ents p x) iq t) q y) m = zA0 (zA0 (zA0 h.ents p x) iq t) q y) := by
 have hu := hf.1
 obtain ⟨hG, hD2, hC2, hN2⟩ := fx5 hf hg
 have hqp : q ≠ p := fun e => hpq e.symm
 have hq2 : ∀ x, zA2 (zA0 h.ents p x) q = some oQ := fun x => (zA1 hqp).trans hq
 have hQ : ∀ x y, zA2 (zA0 (zA0 h.ents p x) q y) q = some y := fun x y => zA7 (hq2 x)
 have hQP : ∀ x y, zA2 (zA0 (zA0 h.ents p x) q y) p = some x := fun x y => (zA1 hpq).trans (hG x)
 have hPQ : ∀ x y z, zA0 (zA0 (zA0 h.ents p x) q y) p z = zA0 (zA0 h.ents p z) q y := fun x y z => by rw [zAw hqp, zAj]
 have hC3 : ∀ x y m, h.next ≤ m → zAc (zA0 (zA0 h.ents p x) q y) m = zA0 (zA0 h.ents p x) q y := fun x y m hm => zAh (hu.set.set.le hm)
 have hip2 : ¬ p = iq := fun e => hip e.symm
 have hiq2 : ¬ q = iq := fun e => hiq e.symm
 have hI1 : ∀ x, zA2 (zA0 h.ents p x) iq = some (.tok vq) := fun x => (zA1 hip).trans hti
 have hI2 : ∀ x t, zA2 (zA0 (zA0 h.ents p x) iq t) iq = some t := fun x t => zA7 (hI1 x)
 have hI3 : ∀ x t, zA2 (zA0 (zA0 h.ents p x) iq t) q = some oQ := fun x t => (zA1 hiq2).trans (hq2 x)
 have hI4 : ∀ x t y, zA2 (zA0 (zA0 (zA0 h.ents p x) iq t) q y) q = some y := fun x t y => zA7 (hI3 x t)
 have hI5 : ∀ x t y, zA2 (zA0 (zA0 (zA0 h.ents p x) iq t) q y) p = some x := fun x t y => (zA1 hpq).trans ((zA1 hip2).trans (hG x))
 have hI6 : ∀ x t y z, zA0 (zA0 (zA0 (zA0 h.ents p x) iq t) q y) p z = zA0 (zA0 (zA0 h.ents p z) iq t) q y := fun x t y z => by rw [zAw hqp, zAw hip, zAj]
 have hI7 : ∀ x t y m, h.next ≤ m → zAc (zA0 (zA0 (zA0 h.ents p x) iq t) q y) m = zA0 (zA0 (zA0 h.ents p x) iq t) q y := fun x t y m hm => zAh (hu.set.set.set.le hm)
 exact ⟨hg, hG, hD2, hC2, hN2, hq, hq2, hQ, hQP, hPQ, hC3, hti, hip, hiq, hI1, hI2, hI3, hI4, hI5, hI6, hI7⟩
theorem fxj {h : CHeap} {p q : Nat} {oP oQ : CObj} (hf : Fit h) (hpq : p ≠ q) (hg : zA2 h.ents p = some oP) (hq : zA2 h.ents q = some oQ) {iq vq : Nat} (hti : zA2 h.ents iq = some (.tok vq)) (hip : iq ≠ p) (hiq : iq ≠ q) {j1 v1 : Nat} (htj : zA2 h.ents j1 = some (.tok v1)) (hjp : j1 ≠ p) (hjq : j1 ≠ q) (hij : j1 ≠ iq) : zA2 h.ents p = some oP ∧ (∀ x, zA2 (zA0 h.ents p x) p = some x) ∧ (∀ x m, h.next ≤ m → zAx (zA0 h.ents p x) m = zA0 h.ents p x) ∧ (∀ x m, h.next ≤ m → zAc (zA0 h.ents p x) m = zA0 h.ents p x) ∧ (∀ x q, h.next ≤ q → zA2 (zA0 h.ents p x) q = none) ∧ zA2 h.ents q = some oQ ∧ (∀ x, zA2 (zA0 h.ents p x) q = some oQ) ∧ (∀ x y, zA2 (zA0 (zA0 h.ents p x) q y) q = some y) ∧ (∀ x y, zA2 (zA0 (zA0 h.ents p x) q y) p = some x) ∧ (∀ x y z, zA0 (zA0 (zA0 h.ents p x) q y) p z = zA0 (zA0 h.ents p z) q y) ∧ (∀ x y m, h.next ≤ m → zAc (zA0 (zA0 h.ents p x) q y) m = zA0 (zA0 h.ents p x) q y) ∧ (∀ x y z, h.next ≤ z → zA2 (zA0 (zA0 h.ents p x) q y) z = none) ∧ zA2 h.ents iq = some (.tok vq) ∧ iq ≠ p ∧ iq ≠ q ∧ (∀ x, zA2 (zA0 h.ents p x) iq = some (.tok vq)) ∧ (∀ x t, zA2 (zA0 (zA0 h.ents p x) iq t) iq = some t) ∧ (∀ x t, zA2 (zA0 (zA0 h.ents p x) iq t) q = some oQ) ∧ (∀ x t y, zA2 (zA0 (zA0 (zA0 h.ents p x) iq t) q y) q = some y) ∧ (∀ x t y, zA2 (zA0 (zA0 (zA0 h.ents p x) iq t) q y) p = some x) ∧ (∀ x t y z, zA0 (zA0 (zA0 (zA0 h.ents p x) iq t) q y) p z = zA0 (zA0 (zA0 h.ents p z) iq t) q y) ∧ (∀ x t y m, h.next ≤ m → zAc (zA0 (zA0 (zA0 h.ents p x) iq t) q y) m = zA0 (zA0 (zA0 h.ents p x) iq t) q y) ∧ j1 ≠ p ∧ j1 ≠ q ∧ j1 ≠ iq ∧ (∀ x t y z, h.next ≤ z → zA2 (zA0 (zA0 (zA0 h.ents p x) iq t) q y) z = none) ∧ zA2 h.ents j1 = some (.tok v1) ∧ (∀ x, zA2 (zA0 h.ents p x) j1 = some (.tok v1)) ∧ (∀ x t, zA2 (zA0 (zA0 h.ents p x) iq t) j1 = some (.tok v1)) ∧ (∀ x t c, zA2 (zA0 (zA0 (zA0 h.ents p x) iq t) q c) j1 = some (.tok v1)) ∧ (∀ x t c u, zA2 (zA0 (zA0 (zA0 (zA0 h.ents p x) iq t) q c) j1 u) q = some c) ∧ (∀ x t c u c', zA0 (zA0 (zA0 (zA0 (zA0 h.ents p x) iq t) q c) j1 u) q c' = zA0 (zA0 (zA0 (zA0 h.ents p x) iq t) j1 u) q c') ∧ (∀ x t u c, zA2 (zA0 (zA0 (zA0 (zA0 h.ents p x) iq t) j1 u) q c) p = some x) ∧ (∀ x t u c z, zA0 (zA0 (zA0 (zA0 (zA0 h.ents p x) iq t) j1 u) q c) p z = zA0 (zA0 (zA0 (zA0 h.ents p z) iq t) j1 u) q c) ∧ (∀ x t u c m, h.next ≤ m → zAc (zA0 (zA0 (zA0 (zA0 h.ents p x) iq t) j1 u) q c) m = zA0 (zA0 (zA0 (zA0 h.ents p x) iq t) j1 u) q c) ∧ (∀ x t u c, zA2 (zA0 (zA0 (zA0 (zA0 h.ents p x) iq t) j1 u) q c) q = some c) := by
 have hu := hf.1
 obtain ⟨hG, hD2, hC2, hN2⟩ := fx5 hf hg
 have hqp : q ≠ p := fun e => hpq e.symm
 have hq2 : ∀ x, zA2 (zA0 h.ents p x) q = some oQ := fun x => (zA1 hqp).trans hq
 have hQ : ∀ x y, zA2 (zA0 (zA0 h.ents p x) q y) q = some y := fun x y => zA7 (hq2 x)
 have hQP : ∀ x y, zA2 (zA0 (zA0 h.ents p x) q y) p = some x := fun x y => (zA1 hpq).trans (hG x)
 have hPQ : ∀ x y z, zA0 (zA0 (zA0 h.ents p x) q y) p z = zA0 (zA0 h.ents p z) q y := fun x y z => by rw [zAw hqp, zAj]
 have hC3 : ∀ x y m, h.next ≤ m → zAc (zA0 (zA0 h.ents p x) q y) m = zA0 (zA0 h.ents p x) q y := fun x y m hm => zAh (hu.set.set.le hm)
 have hN3 : ∀ x y z, h.next ≤ z → zA2 (zA0 (zA0 h.ents p x) q y) z = none := fun x y z hz => getEnt_under hu.set.set hz
 have hip2 : ¬ p = iq := fun e => hip e.symm
 have hiq2 : ¬ q = iq := fun e => hiq e.symm
 have hI1 : ∀ x, zA2 (zA0 h.ents p x) iq = some (.tok vq) := fun x => (zA1 hip).trans hti
 have hI2 : ∀ x t, zA2 (zA0 (zA0 h.ents p x) iq t) iq = some t := fun x t => zA7 (hI1 x)
 have hI3 : ∀ x t, zA2 (zA0 (zA0 h.ents p x) iq t) q = some oQ := fun x t => (zA1 hiq2).trans (hq2 x)
 have hI4 : ∀ x t y, zA2 (zA0 (zA0 (zA0 h.ents p x) iq t) q y) q = some y := fun x t y => zA7 (hI3 x t)
 have hI5 : ∀ x t y, zA2 (zA0 (zA0 (zA0 h.ents p x) iq t) q y) p = some x := fun x t y => (zA1 hpq).trans ((zA1 hip2).trans (hG x))
 have hI6 : ∀ x t y z, zA0 (zA0 (zA0 (zA0 h.ents p x) iq t) q y) p z = zA0 (zA0 (zA0 h.ents p z) iq t) q y := fun x t y z => by rw [zAw hqp, zAw hip, zAj]
 have hI7 : ∀ x t y m, h.next ≤ m → zAc (zA0 (zA0 (zA0 h.ents p x) iq t) q y) m = zA0 (zA0 (zA0 h.ents p x) iq t) q y := fun x t y m hm => zAh (hu.set.set.set.le hm)
 have hN4 : ∀ x t y z, h.next ≤ z → zA2 (zA0 (zA0 (zA0 h.ents p x) iq t) q y) z = none := fun x t y z hz => getEnt_under hu.set.set.set hz
 have hjp2 : ¬ p = j1 := fun e => hjp e.symm
 have hjq2 : ¬ q = j1 := fun e => hjq e.symm
 have hij2 : ¬ iq = j1 := fun e => hij e.symm
 have hJ0 : zA2 h.ents j1 = some (.tok v1) := htj
 have hJ1 : ∀ x, zA2 (zA0 h.ents p x) j1 = some (.tok v1) := fun x => (zA1 hjp).trans htj
 have hJ2 : ∀ x t, zA2 (zA0 (zA0 h.ents p x) iq t) j1 = some (.tok v1) := fun x t => (zA1 hij).trans (hJ1 x)
 have hJ3 : ∀ x t c, zA2 (zA0 (zA0 (zA0 h.ents p x) iq t) q c) j1 = some (.tok v1) := fun x t c => (zA1 hjq).trans (hJ2 x t)
 have hJ4 : ∀ x t c u, zA2 (zA0 (zA0 (zA0 (zA0 h.ents p x) iq t) q c) j1 u) q = some c := fun x t c u => (zA1 hjq2).trans (hI4 x t c)
 have hJ5 : ∀ x t c u c', zA0 (zA0 (zA0 (zA0 (zA0 h.ents p x) iq t) q c) j1 u) q c' = zA0 (zA0 (zA0 (zA0 h.ents p x) iq t) j1 u) q c' := fun x t c u c' => by rw [zAw hjq2, zAj, zAw (fun e => hjq2 e.symm)]
 have hJ6 : ∀ x t u c, zA2 (zA0 (zA0 (zA0 (zA0 h.ents p x) iq t) j1 u) q c) p = some x := fun x t u c => (zA1 hpq).trans ((zA1 hjp2).trans ((zA1 hip2).trans (hG x)))
 have hJ7 : ∀ x t u c z, zA0 (zA0 (zA0 (zA0 (zA0 h.ents p x) iq t) j1 u) q c) p z = zA0 (zA0 (zA0 (zA0 h.ents p z) iq t) j1 u) q c := fun x t u c z => by rw [zAw hqp, zAw hjp, zAw hip, zAj]
 have hJ8 : ∀ x t u c m, h.next ≤ m → zAc (zA0 (zA0 (zA0 (zA0 h.ents p x) iq t) j1 u) q c) m = zA0 (zA0 (zA0 (zA0 h.ents p x) iq t) j1 u) q c := fun x t u c m hm => zAh (hu.set.set.set.set.le hm)
 have hJ9 : ∀ x t u c, zA2 (zA0 (zA0 (zA0 (zA0 h.ents p x) iq t) j1 u) q c) q = some c := fun x t u c => by
  have e : ∀ l : List (Nat × CObj), l = l := fun _ => rfl
  exact zA7 (((zA1 hjq2).trans (hI3 x t)))
 exact ⟨hg, hG, hD2, hC2, hN2, hq, hq2, hQ, hQP, hPQ, hC3, hN3, hti, hip, hiq, hI1, hI2, hI3, hI4, hI5, hI6, hI7, hjp, hjq, hij, hN4, hJ0, hJ1, hJ2, hJ3, hJ4, hJ5, hJ6, hJ7, hJ8, hJ9⟩
theorem fxr {h : CHeap} {p d rb : Nat} (hf : Fit h) (hrp : rb ≠ p) (hrb : zA2 h.ents rb = some (.cells [.ptr p d 0])) : (∀ x, zA2 (zA0 h.ents p x) rb = some (.cells [.ptr p d 0])) ∧ rb < h.next := by
 have hN : ∀ q, h.next ≤ q → zA2 h.ents q = none := fun q hq => getEnt_under hf.1 hq
 have hrb2 : ∀ x, zA2 (zA0 h.ents p x) rb = some (.cells [.ptr p d 0]) := fun x => (zA1 hrp).trans hrb
 have hrn : rb < h.next := by
  rcases Nat.lt_or_ge rb h.next with g | g
  · exact g
  · have := hN rb g; rw [hrb] at this; cases this
 exact ⟨hrb2, hrn⟩
theorem un2_ {l : List (Nat × CObj)} {n : Nat} (h : Under l n := by repeat (first | exact hu.le (by (try dsimp only); omega) | exact hu.set.le (by (try dsimp only); omega) | exact hu.set.set.le (by (try dsimp only); omega) | exact hu.set.set.set.le (by (try dsimp only); omega) | exact hu.set.set.set.set.le (by (try dsimp only); omega) | refine Under.cons (by (try dsimp only); omega) ?_ | exact Under.nil)) : Under l n := h
theorem ft_ {h : CHeap} (hf : Fit h := by exact ⟨un2_, ut_⟩) : Fit h := hf
theorem ge2_ {P : Prop} (h : P := by first | exact hg | exact hZ.2.1 _ | ((try dsimp only); exact hg) | ((try dsimp only); exact hZ.2.1 _) | (simp (disch := omega) [zA2, zA0, sy_nbeq, sy_neqF, zAj, zA1, hZ]; done) | (simp (disch := omega) [zA2, zA0, sy_nbeq, sy_neqF, zAj, zA1, hZ]; omega)) : P := h
theorem lt_ {a b : Nat} (h : a < b := by (try dsimp only); omega) : a < b := h
theorem pu_ {f : Nat} {ar : List CVal} {v : CVal} (H : Pu tree.getF f ar v) {h : CHeap} {K : CVal → CHeap → Prop} (hk : ∀ n2 ty, h.next ≤ n2 → zAb ty n2 → K v ⟨h.ents, n2, ty⟩) (hf : Fit h := by exact ft_) : Wc tree.getF f ar h K := H h hf K hk
end Go.Proofs.YtjecpdnjpggcoaaGreatDoor.IrM
namespace Go.Proofs.YtjecpdnjpggcoaaGreatDoor.IrM
open Go Go.CI
open Go.LexF hiding spacesB lettersB
set_option maxRecDepth 100000
set_option linter.unusedVariables false
set_option linter.unusedSimpArgs false
attribute [local irreducible] W Wo Wc WoR
attribute [local simp] goR regOut checkOne swapOne sameAt nthOp CVal.beq beqs CVal.block storesTo zAa zAe zBg evalE evalP evalL zAy nth setNth COp.cls COp.isStore CVal.isUndef CVal.whole CVal.cells CHeap.put CHeap.get CHeap.set wantedC zA2 zA0 partOf zB9 evalBin evalInt evalStr zB8 initVar descOf List.take List.drop CVal.lenOf CVal.isStr CVal.bare CVal.strip CVal.flat zAo zBm zB6 finishC cut fillCells setCells szOf szOf_desc elems bytesOf evalAppend fillElems mkElem setElem List.replicate sy_nbeq sy_neqF sy_leT sy_leF zAj dropped sy_wrap64 zAx zAc zBb sy_ibeqF sy_ieqF sy_ileT sy_ileF sy_iltT sy_iltF sy_ltT sy_ltF zAg zA8 eqVal extL extE keyIs findKV nthKV setKV CHeap.ty lookupN CHeap.note CHeap.tyOk dropAll freezeVal freezeAll freezeFlat cellsEq cellEq zAk zAq pMakeNoZero zBi pClone pIndex hasPair rowOf byteVals idxFrom hasFront idxSub
theorem wTA1 {P : Prop} (h : P := by refine Wc.mkG 22 c22 (by kernel_rfl) rfl ?_; generalize e : zAa _ _ _ = r; simp (disch := omega) [hX, hZ, c22] at e; subst e; repeat (first | refine sq_ ?_ | refine bl_ ?_ | ((first | refine rg_ ?_ | refine go_ ?_); generalize e : goR _ _ _ _ _ _ _ _ = r; simp (disch := omega) [hX, hZ, List.length_map, hn, hat, hmin, zA5, zA6, zA4, hk2, ht2, c22] at e; replace e : some _ = _ := e; subst e; (try dsimp only [goW])) | refine ct_ rfl ?_ | refine cf_ rfl ?_ | refine sk_ ?_ | refine ex_ ?_ | (refine p_word hla ai e to fun _ _ g _ => ⟨rfl, ?_⟩; try dsimp only at g) | ((first | (refine W.ret ?_; (try simp only [zAl, zA3, zAf]); refine endW.of (.inl rfl) rfl ?_) | refine endW.of (.inr rfl) rfl ?_); generalize e : zAo _ _ _ = r; simp (disch := omega) [hX, hZ, List.length_map, hn, hat, hmin, zA5, zA6, zA4, hk2, ht2, c22] at e; subst e; (try dsimp only [goW]); (refine hk _ _ ?_ ?_; omega; exact ut_)))) : P := h
theorem zA5 {a b : Int} (h : a ≠ b) : (a != b) = true := by simp [h]
theorem zA6 {a b : Int} (h : a = b) : (a != b) = false := by simp [h]
theorem zA4 {a b : Int} (h : a = b) : (a == b) = true := by simp [h]
abbrev pr (l : List Tok) (a e to : Int) : CObj := .cells [.imm .none 4 (l.map tokV), .int .i64 a, .int .i64 e, .int .i64 to]
theorem p_word {l : List Tok} {a k : Nat} {tx : List UInt8} {n at' : Nat} (hla : l[a]? = some (k, tx, n, at')) (ai e to : Int) {h : CHeap} {p d : Nat} {K : CVal → CHeap → Prop}  (hk : ∀ n2 ty, h.next ≤ n2 → zAb ty n2 → K (tokC k tx n at') ⟨h.ents, n2, ty⟩) (hll : l.length < 100000 := by assumption) (hai : ai = (a : Int) := by omega) (hf : Fit h := by exact ft_) (hg : zA2 h.ents p = some (pr l ai e to) := by exact ge2_) (hp : p < h.next := by exact lt_) : Wc tree.getF 20 [.ptr p d 0] h K := by
 obtain ⟨hu, hut, hX⟩ := fx4 hf
 have hZ := fx6 hf hg
 obtain ⟨hal, _⟩ := List.getElem?_eq_some_iff.1 hla
 have hn := nth_mapG tokV l a _ hla
 dsimp only [tokV] at hn
 have hat : ai.toNat = a := by omega
 have hal2 : ai ≤ (l.length : Int) - 1 := by omega
 have hmin : min ai ((l.length : Int) - 1) = ai := by omega
 refine Wc.mkG 20 c20 (by kernel_rfl) rfl ?_
 generalize e : zAa _ _ _ = r
 simp (disch := omega) [hX, hZ, c20] at e
 subst e
 repeat (first | refine sq_ ?_ | refine bl_ ?_ | ((first | refine rg_ ?_ | refine go_ ?_); generalize e : goR _ _ _ _ _ _ _ _ = r; simp (disch := omega) [hX, hZ, List.length_map, hn, hat, hmin, zA5, zA6, zA4, c20] at e; replace e : some _ = _ := e; subst e; (try dsimp only [goW])) | refine ct_ rfl ?_ | refine cf_ rfl ?_ | refine sk_ ?_ | refine ex_ ?_ | ((first | (refine W.ret ?_; (try simp only [zAl, zA3, zAf]); refine endW.of (.inl rfl) rfl ?_) | refine endW.of (.inr rfl) rfl ?_); generalize e : zAo _ _ _ = r; simp (disch := omega) [hX, hZ, List.length_map, hn, hat, hmin, zA5, zA6, zA4, c20] at e; subst e; (try dsimp only [goW]); (refine hk _ _ ?_ ?_; omega; exact ut_)))
theorem p_next {l : List Tok} {a k : Nat} {tx : List UInt8} {n at' : Nat} (hla : l[a]? = some (k, tx, n, at')) (ai e to : Int) {h : CHeap} {p d : Nat} {K : CVal → CHeap → Prop}  (hk : ∀ n2 ty, h.next ≤ n2 → zAb ty n2 → K (tokC k tx n at') ⟨zA0 h.ents p (pr l (ai + 1) e to), n2, ty⟩) (hll : l.length < 100000 := by assumption) (hai : ai = (a : Int) := by omega) (hf : Fit h := by exact ft_) (hg : zA2 h.ents p = some (pr l ai e to) := by exact ge2_) (hp : p < h.next := by exact lt_) : Wc tree.getF 24 [.ptr p d 0] h K := by
 obtain ⟨hu, hut, hX⟩ := fx4 hf
 have hZ := fx6 hf hg
 obtain ⟨hal, _⟩ := List.getElem?_eq_some_iff.1 hla
 have hn := nth_mapG tokV l a _ hla
 dsimp only [tokV] at hn
 have hat : ai.toNat = a := by omega
 have hal2 : ai ≤ (l.length : Int) - 1 := by omega
 have hmin : min ai ((l.length : Int) - 1) = ai := by omega
 refine Wc.mkG 24 c24 (by kernel_rfl) rfl ?_
 generalize e : zAa _ _ _ = r
 simp (disch := omega) [hX, hZ, c24] at e
 subst e
 repeat (first | refine sq_ ?_ | refine bl_ ?_ | ((first | refine rg_ ?_ | refine go_ ?_); generalize e : goR _ _ _ _ _ _ _ _ = r; simp (disch := omega) [hX, hZ, List.length_map, hn, hat, hmin, zA5, zA6, zA4, c24] at e; replace e : some _ = _ := e; subst e; (try dsimp only [goW])) | refine ct_ rfl ?_ | refine cf_ rfl ?_ | refine sk_ ?_ | refine ex_ ?_ | (refine p_word hla ai e to fun _ _ g _ => ⟨rfl, ?_⟩; try dsimp only at g) | ((first | (refine W.ret ?_; (try simp only [zAl, zA3, zAf]); refine endW.of (.inl rfl) rfl ?_) | refine endW.of (.inr rfl) rfl ?_); generalize e : zAo _ _ _ = r; simp (disch := omega) [hX, hZ, List.length_map, hn, hat, hmin, zA5, zA6, zA4, c24] at e; subst e; (try dsimp only [goW]); (refine hk _ _ ?_ ?_; omega; exact ut_)))
theorem p_is1 (l : List Tok) (hll : l.length < 100000) (a : Nat) (k : Nat) (tx : List UInt8) (n at' : Nat) (hla : l[a]? = some (k, tx, n, at')) (ai : Int) (hai : ai = (a : Int)) (e to : Int) (h : CHeap) (p d : Nat) (hf : Fit h) (hg : zA2 h.ents p = some (pr l ai e to)) (hp : p < h.next) (K : CVal → CHeap → Prop) (k2 : Int) (t2 : List UInt8) (hk2 : (k : Int) = k2) (ht2 : (tx == t2) = true) (hk : ∀ n2 ty, h.next ≤ n2 → zAb ty n2 → K (.bool true) ⟨h.ents, n2, ty⟩) : Wc tree.getF 22 [.ptr p d 0, .int .i64 k2, .str t2] h K := by
 obtain ⟨hu, hut, hX⟩ := fx4 hf
 have hZ := fx6 hf hg
 obtain ⟨hal, _⟩ := List.getElem?_eq_some_iff.1 hla
 have hn := nth_mapG tokV l a _ hla
 dsimp only [tokV] at hn
 have hat : ai.toNat = a := by omega
 have hal2 : ai ≤ (l.length : Int) - 1 := by omega
 have hmin : min ai ((l.length : Int) - 1) = ai := by omega
 exact wTA1
theorem p_is2 (l : List Tok) (hll : l.length < 100000) (a : Nat) (k : Nat) (tx : List UInt8) (n at' : Nat) (hla : l[a]? = some (k, tx, n, at')) (ai : Int) (hai : ai = (a : Int)) (e to : Int) (h : CHeap) (p d : Nat) (hf : Fit h) (hg : zA2 h.ents p = some (pr l ai e to)) (hp : p < h.next) (K : CVal → CHeap → Prop) (k2 : Int) (t2 : List UInt8) (hk2 : (k : Int) = k2) (ht2 : (tx == t2) = false) (hk : ∀ n2 ty, h.next ≤ n2 → zAb ty n2 → K (.bool false) ⟨h.ents, n2, ty⟩) : Wc tree.getF 22 [.ptr p d 0, .int .i64 k2, .str t2] h K := by
 obtain ⟨hu, hut, hX⟩ := fx4 hf
 have hZ := fx6 hf hg
 obtain ⟨hal, _⟩ := List.getElem?_eq_some_iff.1 hla
 have hn := nth_mapG tokV l a _ hla
 dsimp only [tokV] at hn
 have hat : ai.toNat = a := by omega
 have hal2 : ai ≤ (l.length : Int) - 1 := by omega
 have hmin : min ai ((l.length : Int) - 1) = ai := by omega
 exact wTA1
theorem p_is3 (l : List Tok) (hll : l.length < 100000) (a : Nat) (k : Nat) (tx : List UInt8) (n at' : Nat) (hla : l[a]? = some (k, tx, n, at')) (ai : Int) (hai : ai = (a : Int)) (e to : Int) (h : CHeap) (p d : Nat) (hf : Fit h) (hg : zA2 h.ents p = some (pr l ai e to)) (hp : p < h.next) (K : CVal → CHeap → Prop) (k2 : Int) (t2 : List UInt8) (hk2 : ¬ (k : Int) = k2) (hk : ∀ n2 ty, h.next ≤ n2 → zAb ty n2 → K (.bool false) ⟨h.ents, n2, ty⟩) : Wc tree.getF 22 [.ptr p d 0, .int .i64 k2, .str t2] h K := by
 obtain ⟨hu, hut, hX⟩ := fx4 hf
 have hZ := fx6 hf hg
 obtain ⟨hal, _⟩ := List.getElem?_eq_some_iff.1 hla
 have hn := nth_mapG tokV l a _ hla
 dsimp only [tokV] at hn
 have hat : ai.toNat = a := by omega
 have hal2 : ai ≤ (l.length : Int) - 1 := by omega
 have hmin : min ai ((l.length : Int) - 1) = ai := by omega
 refine Wc.mkG 22 c22 (by kernel_rfl) rfl ?_
 generalize e : zAa _ _ _ = r
 simp (disch := omega) [hX, hZ, c22] at e
 subst e
 repeat (first | refine sq_ ?_ | refine bl_ ?_ | ((first | refine rg_ ?_ | refine go_ ?_); generalize e : goR _ _ _ _ _ _ _ _ = r; simp (disch := omega) [hX, hZ, List.length_map, hn, hat, hmin, zA5, zA6, zA4, hk2, c22] at e; replace e : some _ = _ := e; subst e; (try dsimp only [goW])) | refine ct_ rfl ?_ | refine cf_ rfl ?_ | refine sk_ ?_ | refine ex_ ?_ | (refine p_word hla ai e to fun _ _ g _ => ⟨rfl, ?_⟩; try dsimp only at g) | ((first | (refine W.ret ?_; (try simp only [zAl, zA3, zAf]); refine endW.of (.inl rfl) rfl ?_) | refine endW.of (.inr rfl) rfl ?_); generalize e : zAo _ _ _ = r; simp (disch := omega) [hX, hZ, List.length_map, hn, hat, hmin, zA5, zA6, zA4, hk2, c22] at e; subst e; (try dsimp only [goW]); (refine hk _ _ ?_ ?_; omega; exact ut_)))
theorem p_is {l : List Tok} {a k : Nat} {tx : List UInt8} {n at' : Nat} (hla : l[a]? = some (k, tx, n, at')) (ai e to : Int) {h : CHeap} {p d : Nat} {K : CVal → CHeap → Prop} {k2 : Int} {t2 : List UInt8} (b : Bool) (hb : ((k : Int) == k2 && tx == t2) = b) (hk : ∀ n2 ty, h.next ≤ n2 → zAb ty n2 → K (.bool b) ⟨h.ents, n2, ty⟩) (hll : l.length < 100000 := by assumption) (hai : ai = (a : Int) := by omega) (hf : Fit h := by exact ft_) (hg : zA2 h.ents p = some (pr l ai e to) := by exact ge2_) (hp : p < h.next := by exact lt_) : Wc tree.getF 22 [.ptr p d 0, .int .i64 k2, .str t2] h K := by
 subst hb
 by_cases h1 : (k : Int) = k2
 · cases h2 : tx == t2 with
   | true => exact p_is1 l hll a k tx n at' hla ai hai e to h p d hf hg hp K k2 t2 h1 h2 (fun n2 ty g1 g2 => by have := hk n2 ty g1 g2; rw [h2, zA4 h1] at this; exact this)
   | false => exact p_is2 l hll a k tx n at' hla ai hai e to h p d hf hg hp K k2 t2 h1 h2 (fun n2 ty g1 g2 => by have := hk n2 ty g1 g2; rw [h2, Bool.and_false] at this; exact this)
 · exact p_is3 l hll a k tx n at' hla ai hai e to h p d hf hg hp K k2 t2 h1 (fun n2 ty g1 g2 => by have := hk n2 ty g1 g2; rw [sy_ibeqF h1, Bool.false_and] at this; exact this)
theorem p_takeT {l : List Tok} {a k : Nat} {tx : List UInt8} {n at' : Nat} (hla : l[a]? = some (k, tx, n, at')) (ai e to : Int) {h : CHeap} {p d : Nat} {K : CVal → CHeap → Prop} {k2 : Int} {t2 : List UInt8} (hb : ((k : Int) == k2 && tx == t2) = true) (hk : ∀ n2 ty, h.next ≤ n2 → zAb ty n2 → K (.bool true) ⟨zA0 h.ents p (pr l (ai + 1) e to), n2, ty⟩) (hll : l.length < 100000 := by assumption) (hai : ai = (a : Int) := by omega) (hf : Fit h := by exact ft_) (hg : zA2 h.ents p = some (pr l ai e to) := by exact ge2_) (hp : p < h.next := by exact lt_) : Wc tree.getF 21 [.ptr p d 0, .int .i64 k2, .str t2] h K := by
 obtain ⟨hu, hut, hX⟩ := fx4 hf
 have hZ := fx6 hf hg
 obtain ⟨hal, _⟩ := List.getElem?_eq_some_iff.1 hla
 have hn := nth_mapG tokV l a _ hla
 dsimp only [tokV] at hn
 have hat : ai.toNat = a := by omega
 have hal2 : ai ≤ (l.length : Int) - 1 := by omega
 have hmin : min ai ((l.length : Int) - 1) = ai := by omega
 refine Wc.mkG 21 c21 (by kernel_rfl) rfl ?_
 generalize e : zAa _ _ _ = r
 simp (disch := omega) [hX, hZ, c21] at e
 subst e
 repeat (first | refine sq_ ?_ | refine bl_ ?_ | ((first | refine rg_ ?_ | refine go_ ?_); generalize e : goR _ _ _ _ _ _ _ _ = r; simp (disch := omega) [hX, hZ, List.length_map, hn, hat, hmin, zA5, zA6, zA4, c21] at e; replace e : some _ = _ := e; subst e; (try dsimp only [goW])) | refine ct_ rfl ?_ | refine cf_ rfl ?_ | refine sk_ ?_ | refine ex_ ?_ | (refine p_is hla ai e to true hb fun n2 tyn2 hn2 hun2 => ⟨rfl, ?_⟩; try dsimp only at hn2) | ((first | (refine W.ret ?_; (try simp only [zAl, zA3, zAf]); refine endW.of (.inl rfl) rfl ?_) | refine endW.of (.inr rfl) rfl ?_); generalize e : zAo _ _ _ = r; simp (disch := omega) [hX, hZ, List.length_map, hn, hat, hmin, zA5, zA6, zA4, c21] at e; subst e; (try dsimp only [goW]); (refine hk _ _ ?_ ?_; omega; exact ut_)))
theorem zB7 {l : List Tok} {a k : Nat} {tx : List UInt8} {n at' : Nat} (hla : l[a]? = some (k, tx, n, at')) (ai e to : Int) {h : CHeap} {p d : Nat} {K : CVal → CHeap → Prop} {k2 : Int} {t2 : List UInt8} (hb : ((k : Int) == k2 && tx == t2) = false) (hk : ∀ n2 ty, h.next ≤ n2 → zAb ty n2 → K (.bool false) ⟨h.ents, n2, ty⟩) (hll : l.length < 100000 := by assumption) (hai : ai = (a : Int) := by omega) (hf : Fit h := by exact ft_) (hg : zA2 h.ents p = some (pr l ai e to) := by exact ge2_) (hp : p < h.next := by exact lt_) : Wc tree.getF 21 [.ptr p d 0, .int .i64 k2, .str t2] h K := by
 obtain ⟨hu, hut, hX⟩ := fx4 hf
 have hZ := fx6 hf hg
 obtain ⟨hal, _⟩ := List.getElem?_eq_some_iff.1 hla
 have hn := nth_mapG tokV l a _ hla
 dsimp only [tokV] at hn
 have hat : ai.toNat = a := by omega
 have hal2 : ai ≤ (l.length : Int) - 1 := by omega
 have hmin : min ai ((l.length : Int) - 1) = ai := by omega
 refine Wc.mkG 21 c21 (by kernel_rfl) rfl ?_
 generalize e : zAa _ _ _ = r
 simp (disch := omega) [hX, hZ, c21] at e
 subst e
 repeat (first | refine sq_ ?_ | refine bl_ ?_ | ((first | refine rg_ ?_ | refine go_ ?_); generalize e : goR _ _ _ _ _ _ _ _ = r; simp (disch := omega) [hX, hZ, List.length_map, hn, hat, hmin, zA5, zA6, zA4, c21] at e; replace e : some _ = _ := e; subst e; (try dsimp only [goW])) | refine ct_ rfl ?_ | refine cf_ rfl ?_ | refine sk_ ?_ | refine ex_ ?_ | (refine p_is hla ai e to false hb fun n2 tyn2 hn2 hun2 => ⟨rfl, ?_⟩; try dsimp only at hn2) | ((first | (refine W.ret ?_; (try simp only [zAl, zA3, zAf]); refine endW.of (.inl rfl) rfl ?_) | refine endW.of (.inr rfl) rfl ?_); generalize e : zAo _ _ _ = r; simp (disch := omega) [hX, hZ, List.length_map, hn, hat, hmin, zA5, zA6, zA4, c21] at e; subst e; (try dsimp only [goW]); (refine hk _ _ ?_ ?_; omega; exact ut_)))
theorem p_failsF (p d : Nat) (x : Int) : Pu tree.getF 23 [.ptr p d 0, .bool false, .int .i64 x] (.tup []) := by
 intro h hf K hk
 obtain ⟨hu, hut, hX⟩ := fx4 hf
 refine Wc.mkG 23 c23 (by kernel_rfl) rfl ?_
 generalize e : zAa _ _ _ = r
 simp (disch := omega) [hX, zA5, zA6, zA4, c23] at e
 subst e
 repeat (first | refine sq_ ?_ | refine bl_ ?_ | ((first | refine rg_ ?_ | refine go_ ?_); generalize e : goR _ _ _ _ _ _ _ _ = r; simp (disch := omega) [hX, zA5, zA6, zA4, c23] at e; replace e : some _ = _ := e; subst e; (try dsimp only [goW])) | refine ct_ rfl ?_ | refine cf_ rfl ?_ | refine sk_ ?_ | refine ex_ ?_ | (refine W.loop ?_; try (generalize e : dropped _ _ _ = r; simp (disch := omega) [hX, zA5, zA6, zA4, c23] at e; subst e; try dsimp only)) | ((first | (refine W.ret ?_; (try simp only [zAl, zA3, zAf]); refine endW.of (.inl rfl) rfl ?_) | refine endW.of (.inr rfl) rfl ?_); generalize e : zAo _ _ _ = r; simp (disch := omega) [hX, zA5, zA6, zA4, c23] at e; subst e; (try dsimp only [goW]); (refine hk _ _ ?_ ?_; omega; exact ut_)))
theorem p_failsT {l : List Tok} {a k : Nat} {tx : List UInt8} {n at' : Nat} (hla : l[a]? = some (k, tx, n, at')) (ai e to : Int) {h : CHeap} {p d : Nat} {K : CVal → CHeap → Prop} {x : Int} (he : e = 0) (hk : ∀ n2 ty, h.next ≤ n2 → zAb ty n2 → K (.tup []) ⟨zA0 h.ents p (pr l ai x (at' : Int)), n2, ty⟩) (hll : l.length < 100000 := by assumption) (hai : ai = (a : Int) := by omega) (hf : Fit h := by exact ft_) (hg : zA2 h.ents p = some (pr l ai e to) := by exact ge2_) (hp : p < h.next := by exact lt_) : Wc tree.getF 23 [.ptr p d 0, .bool true, .int .i64 x] h K := by
 obtain ⟨hu, hut, hX⟩ := fx4 hf
 have hZ := fx6 hf hg
 obtain ⟨hal, _⟩ := List.getElem?_eq_some_iff.1 hla
 have hn := nth_mapG tokV l a _ hla
 dsimp only [tokV] at hn
 have hat : ai.toNat = a := by omega
 have hal2 : ai ≤ (l.length : Int) - 1 := by omega
 have hmin : min ai ((l.length : Int) - 1) = ai := by omega
 refine Wc.mkG 23 c23 (by kernel_rfl) rfl ?_
 generalize e : zAa _ _ _ = r
 simp (disch := omega) [hX, hZ, c23] at e
 subst e
 repeat (first | refine sq_ ?_ | refine bl_ ?_ | ((first | refine rg_ ?_ | refine go_ ?_); generalize e : goR _ _ _ _ _ _ _ _ = r; simp (disch := omega) [hX, hZ, List.length_map, hn, hat, hmin, zA5, zA6, zA4, he, c23] at e; replace e : some _ = _ := e; subst e; (try dsimp only [goW])) | refine ct_ rfl ?_ | refine cf_ rfl ?_ | refine sk_ ?_ | refine ex_ ?_ | (refine p_word hla ai e to fun _ _ g _ => ⟨rfl, ?_⟩; try dsimp only at g) | ((first | (refine W.ret ?_; (try simp only [zAl, zA3, zAf]); refine endW.of (.inl rfl) rfl ?_) | refine endW.of (.inr rfl) rfl ?_); generalize e : zAo _ _ _ = r; simp (disch := omega) [hX, hZ, List.length_map, hn, hat, hmin, zA5, zA6, zA4, he, c23] at e; subst e; (try dsimp only [goW]); (refine hk _ _ ?_ ?_; omega; exact ut_)))
theorem p_needs {l : List Tok} {a k : Nat} {tx : List UInt8} {n at' : Nat} (hla : l[a]? = some (k, tx, n, at')) (ai e to : Int) {h : CHeap} {p d : Nat} {K : CVal → CHeap → Prop} {k2 : Int} {t2 : List UInt8} (hb : ((k : Int) == k2 && tx == t2) = true) (hk : ∀ n2 ty, h.next ≤ n2 → zAb ty n2 → K (.tup []) ⟨zA0 h.ents p (pr l (ai + 1) e to), n2, ty⟩) (hll : l.length < 100000 := by assumption) (hai : ai = (a : Int) := by omega) (hf : Fit h := by exact ft_) (hg : zA2 h.ents p = some (pr l ai e to) := by exact ge2_) (hp : p < h.next := by exact lt_) : Wc tree.getF 18 [.ptr p d 0, .int .i64 k2, .str t2] h K := by
 obtain ⟨hu, hut, hX⟩ := fx4 hf
 have hZ := fx6 hf hg
 obtain ⟨hal, _⟩ := List.getElem?_eq_some_iff.1 hla
 have hn := nth_mapG tokV l a _ hla
 dsimp only [tokV] at hn
 have hat : ai.toNat = a := by omega
 have hal2 : ai ≤ (l.length : Int) - 1 := by omega
 have hmin : min ai ((l.length : Int) - 1) = ai := by omega
 refine Wc.mkG 18 c18 (by kernel_rfl) rfl ?_
 generalize e : zAa _ _ _ = r
 simp (disch := omega) [hX, hZ, c18] at e
 subst e
 repeat (first | refine sq_ ?_ | refine bl_ ?_ | ((first | refine rg_ ?_ | refine go_ ?_); generalize e : goR _ _ _ _ _ _ _ _ = r; simp (disch := omega) [hX, hZ, List.length_map, hn, hat, hmin, zA5, zA6, zA4, c18] at e; replace e : some _ = _ := e; subst e; (try dsimp only [goW])) | refine ct_ rfl ?_ | refine cf_ rfl ?_ | refine sk_ ?_ | refine ex_ ?_ | (refine p_is hla ai e to true hb fun n2 tyn2 hn2 hun2 => ⟨rfl, ?_⟩; try dsimp only at hn2) | (refine pu_ (p_failsF p d _) fun _ _ g _ => ⟨rfl, ?_⟩; try dsimp only at g) | ((first | (refine W.ret ?_; (try simp only [zAl, zA3, zAf]); refine endW.of (.inl rfl) rfl ?_) | refine endW.of (.inr rfl) rfl ?_); generalize e : zAo _ _ _ = r; simp (disch := omega) [hX, hZ, List.length_map, hn, hat, hmin, zA5, zA6, zA4, c18] at e; subst e; (try dsimp only [goW]); (refine hk _ _ ?_ ?_; omega; exact ut_)))
theorem p_sign {l : List Tok} {a k : Nat} {tx : List UInt8} {n at' : Nat} (hla : l[a]? = some (k, tx, n, at')) (ai e to : Int) {h : CHeap} {p d : Nat} {K : CVal → CHeap → Prop} {t2 : List UInt8} (hb : ((k : Int) == 4 && tx == t2) = true) (hk : ∀ n2 ty, h.next ≤ n2 → zAb ty n2 → K (.tup []) ⟨zA0 h.ents p (pr l (ai + 1) e to), n2, ty⟩) (hll : l.length < 100000 := by assumption) (hai : ai = (a : Int) := by omega) (hf : Fit h := by exact ft_) (hg : zA2 h.ents p = some (pr l ai e to) := by exact ge2_) (hp : p < h.next := by exact lt_) : Wc tree.getF 19 [.ptr p d 0, .str t2] h K := by
 obtain ⟨hu, hut, hX⟩ := fx4 hf
 have hZ := fx6 hf hg
 obtain ⟨hal, _⟩ := List.getElem?_eq_some_iff.1 hla
 have hn := nth_mapG tokV l a _ hla
 dsimp only [tokV] at hn
 have hat : ai.toNat = a := by omega
 have hal2 : ai ≤ (l.length : Int) - 1 := by omega
 have hmin : min ai ((l.length : Int) - 1) = ai := by omega
 refine Wc.mkG 19 c19 (by kernel_rfl) rfl ?_
 generalize e : zAa _ _ _ = r
 simp (disch := omega) [hX, hZ, c19] at e
 subst e
 repeat (first | refine sq_ ?_ | refine bl_ ?_ | ((first | refine rg_ ?_ | refine go_ ?_); generalize e : goR _ _ _ _ _ _ _ _ = r; simp (disch := omega) [hX, hZ, List.length_map, hn, hat, hmin, zA5, zA6, zA4, c19] at e; replace e : some _ = _ := e; subst e; (try dsimp only [goW])) | refine ct_ rfl ?_ | refine cf_ rfl ?_ | refine sk_ ?_ | refine ex_ ?_ | (refine p_needs hla ai e to hb fun _ _ g _ => ⟨rfl, ?_⟩; try dsimp only at g) | ((first | (refine W.ret ?_; (try simp only [zAl, zA3, zAf]); refine endW.of (.inl rfl) rfl ?_) | refine endW.of (.inr rfl) rfl ?_); generalize e : zAo _ _ _ = r; simp (disch := omega) [hX, hZ, List.length_map, hn, hat, hmin, zA5, zA6, zA4, c19] at e; subst e; (try dsimp only [goW]); (refine hk _ _ ?_ ?_; omega; exact ut_)))
theorem p_of {l : List Tok} {a k : Nat} {tx : List UInt8} {n at' : Nat} (hla : l[a]? = some (k, tx, n, at')) (ai e to : Int) {h : CHeap} {p d : Nat} {K : CVal → CHeap → Prop} {k2 : Int} (hk2 : (k : Int) = k2) (hk : ∀ n2 ty, h.next ≤ n2 → zAb ty n2 → K (tokC k2 tx n at') ⟨zA0 h.ents p (pr l (ai + 1) e to), n2, ty⟩) (hll : l.length < 100000 := by assumption) (hai : ai = (a : Int) := by omega) (hf : Fit h := by exact ft_) (hg : zA2 h.ents p = some (pr l ai e to) := by exact ge2_) (hp : p < h.next := by exact lt_) : Wc tree.getF 26 [.ptr p d 0, .int .i64 k2] h K := by
 obtain ⟨hu, hut, hX⟩ := fx4 hf
 have hZ := fx6 hf hg
 obtain ⟨hal, _⟩ := List.getElem?_eq_some_iff.1 hla
 have hn := nth_mapG tokV l a _ hla
 dsimp only [tokV] at hn
 have hat : ai.toNat = a := by omega
 have hal2 : ai ≤ (l.length : Int) - 1 := by omega
 have hmin : min ai ((l.length : Int) - 1) = ai := by omega
 refine Wc.mkG 26 c26 (by kernel_rfl) rfl ?_
 generalize e : zAa _ _ _ = r
 simp (disch := omega) [hX, hZ, c26] at e
 subst e
 repeat (first | refine sq_ ?_ | refine bl_ ?_ | ((first | refine rg_ ?_ | refine go_ ?_); generalize e : goR _ _ _ _ _ _ _ _ = r; simp (disch := omega) [hX, hZ, List.length_map, hn, hat, hmin, zA5, zA6, zA4, hk2, c26] at e; replace e : some _ = _ := e; subst e; (try dsimp only [goW])) | refine ct_ rfl ?_ | refine cf_ rfl ?_ | refine sk_ ?_ | refine ex_ ?_ | (refine p_word hla ai e to fun _ _ g _ => ⟨rfl, ?_⟩; try dsimp only at g) | (refine pu_ (p_failsF p d _) fun _ _ g _ => ⟨rfl, ?_⟩; try dsimp only at g) | (refine p_next hla ai e to fun _ _ g _ => ⟨rfl, ?_⟩; try dsimp only at g) | ((first | (refine W.ret ?_; (try simp only [zAl, zA3, zAf]); refine endW.of (.inl rfl) rfl ?_) | refine endW.of (.inr rfl) rfl ?_); generalize e : zAo _ _ _ = r; simp (disch := omega) [hX, hZ, List.length_map, hn, hat, hmin, zA5, zA6, zA4, hk2, c26] at e; subst e; (try dsimp only [goW]); (refine hk _ _ ?_ ?_; omega; exact ut_)))
abbrev PlainOk (tx : List UInt8) : Prop := Pu tree.getF 11 [.str tx] (.bool true)
theorem p_plain {l : List Tok} {a k : Nat} {tx : List UInt8} {n at' : Nat} (hla : l[a]? = some (k, tx, n, at')) (ai e to : Int) {h : CHeap} {p d : Nat} {K : CVal → CHeap → Prop} (hP : PlainOk tx) (hk2 : (k : Int) = 1) (hk : ∀ n2 ty, h.next ≤ n2 → zAb ty n2 → K (.str tx) ⟨zA0 h.ents p (pr l (ai + 1) e to), n2, ty⟩) (hll : l.length < 100000 := by assumption) (hai : ai = (a : Int) := by omega) (hf : Fit h := by exact ft_) (hg : zA2 h.ents p = some (pr l ai e to) := by exact ge2_) (hp : p < h.next := by exact lt_) : Wc tree.getF 38 [.ptr p d 0] h K := by
 obtain ⟨hu, hut, hX⟩ := fx4 hf
 have hZ := fx6 hf hg
 obtain ⟨hal, _⟩ := List.getElem?_eq_some_iff.1 hla
 have hn := nth_mapG tokV l a _ hla
 dsimp only [tokV] at hn
 have hat : ai.toNat = a := by omega
 have hal2 : ai ≤ (l.length : Int) - 1 := by omega
 have hmin : min ai ((l.length : Int) - 1) = ai := by omega
 refine Wc.mkG 38 c38 (by kernel_rfl) rfl ?_
 generalize e : zAa _ _ _ = r
 simp (disch := omega) [hX, hZ, c38] at e
 subst e
 repeat (first | refine sq_ ?_ | refine bl_ ?_ | ((first | refine rg_ ?_ | refine go_ ?_); generalize e : goR _ _ _ _ _ _ _ _ = r; simp (disch := omega) [hX, hZ, List.length_map, hn, hat, hmin, zA5, zA6, zA4, hk2, c38] at e; replace e : some _ = _ := e; subst e; (try dsimp only [goW])) | refine ct_ rfl ?_ | refine cf_ rfl ?_ | refine sk_ ?_ | refine ex_ ?_ | (refine p_word hla ai e to fun _ _ g _ => ⟨rfl, ?_⟩; try dsimp only at g) | (refine hP _ ?_ _ fun n7 tyn7 hn7 hun7 => ⟨rfl, ?_⟩; exact fit_; (try dsimp only at hn7)) | (refine pu_ (p_failsF p d _) fun _ _ g _ => ⟨rfl, ?_⟩; try dsimp only at g) | (refine p_of hla ai e to hk2 fun _ _ g _ => ⟨rfl, ?_⟩; try dsimp only at g) | ((first | (refine W.ret ?_; (try simp only [zAl, zA3, zAf]); refine endW.of (.inl rfl) rfl ?_) | refine endW.of (.inr rfl) rfl ?_); generalize e : zAo _ _ _ = r; simp (disch := omega) [hX, hZ, List.length_map, hn, hat, hmin, zA5, zA6, zA4, hk2, c38] at e; subst e; (try dsimp only [goW]); (refine hk _ _ ?_ ?_; omega; exact ut_)))
theorem p_mostF (p d : Nat) (n : Int) (hn : n < 30) : Pu tree.getF 27 [.ptr p d 0, .int .i64 n] (.tup []) := by
 intro h hf K hk
 obtain ⟨hu, hut, hX⟩ := fx4 hf
 refine Wc.mkG 27 c27 (by kernel_rfl) rfl ?_
 generalize e : zAa _ _ _ = r
 simp (disch := omega) [hX, zA5, zA6, zA4, c27] at e
 subst e
 repeat (first | refine sq_ ?_ | refine bl_ ?_ | ((first | refine rg_ ?_ | refine go_ ?_); generalize e : goR _ _ _ _ _ _ _ _ = r; simp (disch := omega) [hX, zA5, zA6, zA4, c27] at e; replace e : some _ = _ := e; subst e; (try dsimp only [goW])) | refine ct_ rfl ?_ | refine cf_ rfl ?_ | refine sk_ ?_ | refine ex_ ?_ | (refine W.loop ?_; try (generalize e : dropped _ _ _ = r; simp (disch := omega) [hX, zA5, zA6, zA4, c27] at e; subst e; try dsimp only)) | (refine pu_ (p_failsF p d _) fun _ _ g _ => ⟨rfl, ?_⟩; try dsimp only at g) | ((first | (refine W.ret ?_; (try simp only [zAl, zA3, zAf]); refine endW.of (.inl rfl) rfl ?_) | refine endW.of (.inr rfl) rfl ?_); generalize e : zAo _ _ _ = r; simp (disch := omega) [hX, zA5, zA6, zA4, c27] at e; subst e; (try dsimp only [goW]); (refine hk _ _ ?_ ?_; omega; exact ut_)))
end Go.Proofs.YtjecpdnjpggcoaaGreatDoor.IrM
namespace Go.Proofs.YtjecpdnjpggcoaaGreatDoor.IrM
open Go Go.CI
open Go.LexF hiding spacesB lettersB
set_option maxRecDepth 100000
set_option maxHeartbeats 4000000
set_option linter.unusedVariables false
set_option linter.unusedSimpArgs false
attribute [local irreducible] W Wo Wc WoR
attribute [local simp] goR regOut checkOne swapOne sameAt nthOp CVal.beq beqs CVal.block storesTo zAa zAe zBg evalE evalP evalL zAy nth setNth COp.cls COp.isStore CVal.isUndef CVal.whole CVal.cells CHeap.put CHeap.get CHeap.set wantedC zA2 zA0 partOf zB9 evalBin evalInt evalStr zB8 initVar descOf List.take List.drop CVal.lenOf CVal.isStr CVal.bare CVal.strip CVal.flat zAo zBm zB6 finishC cut fillCells setCells szOf szOf_desc elems bytesOf evalAppend fillElems mkElem setElem List.replicate sy_nbeq sy_neqF sy_leT sy_leF zAj dropped sy_wrap64 zAx zAc zBb sy_ibeqF sy_ieqF sy_ileT sy_ileF sy_iltT sy_iltF sy_ltT sy_ltF zAg zA8 eqVal extL extE keyIs findKV nthKV setKV CHeap.ty lookupN CHeap.note CHeap.tyOk dropAll freezeVal freezeAll freezeFlat cellsEq cellEq zAk zAq pMakeNoZero zBi pClone pIndex hasPair rowOf byteVals idxFrom hasFront idxSub
theorem zBc (c : UInt8) (hc : c ≠ 46) : Pu tree.getF 11 [.str [c]] (.bool true) := by
 intro h hf K hk
 obtain ⟨hu, hut, hX⟩ := fx4 hf
 have hc2 : (c == 46) = false := by simpa using hc
 refine Wc.mkG 11 c11 (by kernel_rfl) rfl ?_
 generalize e : zAa _ _ _ = r
 simp (disch := omega) [hX, hc2, c11] at e
 subst e
 repeat (first | refine sq_ ?_ | refine bl_ ?_ | ((first | refine rg_ ?_ | refine go_ ?_); generalize e : goR _ _ _ _ _ _ _ _ = r; simp (disch := omega) [hX, hc2, c15, c30, c32, c47, c11] at e; replace e : some _ = _ := e; subst e; (try dsimp only [goW])) | refine ct_ rfl ?_ | refine cf_ rfl ?_ | refine sk_ ?_ | refine ex_ ?_ | (refine W.loop ?_; try (generalize e : dropped _ _ _ = r; simp (disch := omega) [hX, hc2, c15, c30, c32, c47, c11] at e; subst e; try dsimp only)) | (refine Wc.mkG 15 c15 (by kernel_rfl) rfl ?_; generalize e : zAa _ _ _ = r; simp (disch := omega) [hX, hc2, c15, c30, c32, c47, c11] at e; subst e) | (refine Wc.mkG 30 c30 (by kernel_rfl) rfl ?_; generalize e : zAa _ _ _ = r; simp (disch := omega) [hX, hc2, c15, c30, c32, c47, c11] at e; subst e) | (refine Wc.mkG 32 c32 (by kernel_rfl) rfl ?_; generalize e : zAa _ _ _ = r; simp (disch := omega) [hX, hc2, c15, c30, c32, c47, c11] at e; subst e) | (refine Wc.mkG 47 c47 (by kernel_rfl) rfl ?_; generalize e : zAa _ _ _ = r; simp (disch := omega) [hX, hc2, c15, c30, c32, c47, c11] at e; subst e) | (refine Wc.primM (f := 45) (p := pIndex) (by kernel_rfl) ?_; generalize e : pIndex _ _ = r; simp (disch := omega) [hX, hc2, c15, c30, c32, c47, c11] at e; subst e; (try dsimp only); refine ⟨rfl, ?_⟩) | (refine Wc.primM (f := 66) (p := zBi) (by kernel_rfl) ?_; generalize e : zBi _ _ = r; simp (disch := omega) [hX, hc2, c15, c30, c32, c47, c11] at e; subst e; (try dsimp only); refine ⟨rfl, ?_⟩) | ((first | (refine W.ret ?_; (try simp only [zAl, zA3, zAf]); refine endW.of (.inl rfl) rfl ?_) | refine endW.of (.inr rfl) rfl ?_); generalize e : zAo _ _ _ = r; simp (disch := omega) [hX, hc2, c15, c30, c32, c47, c11] at e; subst e; (try dsimp only [goW]); (first | refine ⟨rfl, ?_⟩ | (refine hk _ _ ?_ ?_; omega; exact ut_))))
theorem p_field {l : List Tok} {a : Nat} {T nm : List UInt8} {n b0 b1 b2 b3 b4 : Nat} (hl0 : l[a + 0]? = some (1, T, 0, b0)) (hl1 : l[a + 1]? = some (1, nm, 0, b1)) (hl2 : l[a + 2]? = some (4, [61], 0, b2)) (hl3 : l[a + 3]? = some (2, [], n, b3)) (hl4 : l[a + 4]? = some (4, [59], 0, b4)) (e to : Int) (hT1 : (T == [109, 97, 112]) = false) (hT2 : (T == [111, 112, 116, 105, 111, 110, 97, 108]) = false) (hT3 : (T == [114, 101, 112, 101, 97, 116, 101, 100]) = false) (hP : PlainOk nm) {h : CHeap} {p d : Nat} {K : CVal → CHeap → Prop}
    (hk : ∀ n2 ty, h.next ≤ n2 → zAb ty n2 → K (.agg [.int .i64 0, .str T, .str [], .str nm, .int .u64 (n : Int), .int .i64 0, .int .i64 0]) ⟨zA0 h.ents p (pr l (((a : Int) + 1 + 1 + 1 + 1 + 1)) e to), n2, ty⟩) (hll : l.length < 100000 := by assumption) (hf : Fit h := by exact ft_) (hg : zA2 h.ents p = some (pr l (a : Int) e to) := by exact ge2_) (hp : p < h.next := by exact lt_) : Wc tree.getF 43 [.ptr p d 0] h K := by
 obtain ⟨hu, hut, hX⟩ := fx4 hf
 have hZ := fx6 hf hg
 refine Wc.mkG 43 c43 (by kernel_rfl) rfl ?_
 generalize e : zAa _ _ _ = r
 simp (disch := omega) [hX, hZ, c43] at e
 subst e
 repeat (first | refine sq_ ?_ | refine bl_ ?_ | ((first | refine rg_ ?_ | refine go_ ?_); generalize e : goR _ _ _ _ _ _ _ _ = r; simp (disch := omega) [hX, hZ, zA5, zA6, zA4, c58, c43] at e; replace e : some _ = _ := e; subst e; (try dsimp only [goW])) | refine ct_ rfl ?_ | refine cf_ rfl ?_ | refine sk_ ?_ | refine ex_ ?_ | (refine zB7 hl0 a e to (by simp only [hT1, Bool.and_false]) fun _ _ g _ => ⟨rfl, ?_⟩; try dsimp only at g) | (refine zB7 hl0 a e to (by simp only [hT2, Bool.and_false]) fun n2 ty2 hn2 hun2 => ⟨rfl, ?_⟩; try dsimp only at hn2) | (refine zB7 hl0 a e to (by simp only [hT3, Bool.and_false]) fun _ _ g _ => ⟨rfl, ?_⟩; try dsimp only at g) | (refine p_of hl0 a e to rfl fun _ _ g _ => ⟨rfl, ?_⟩; try dsimp only at g) | (refine p_plain hl1 (a + 1) e to hP rfl fun _ _ g _ => ⟨rfl, ?_⟩; try dsimp only at g) | (refine p_sign hl2 (a + 1 + 1) e to rfl fun _ _ g _ => ⟨rfl, ?_⟩; try dsimp only at g) | (refine p_of hl3 (a + 1 + 1 + 1) e to rfl fun _ _ g _ => ⟨rfl, ?_⟩; try dsimp only at g) | (refine zB7 hl4 (a + 1 + 1 + 1 + 1) e to rfl fun _ _ g _ => ⟨rfl, ?_⟩; try dsimp only at g) | (refine p_sign hl4 (a + 1 + 1 + 1 + 1) e to rfl fun _ _ g _ => ⟨rfl, ?_⟩; try dsimp only at g) | (refine Wc.mkG 58 c58 (by kernel_rfl) rfl ?_; generalize e : zAa _ _ _ = r; simp (disch := omega) [hX, hZ, zA5, zA6, zA4, c58, c43] at e; subst e) | ((first | (refine W.ret ?_; (try simp only [zAl, zA3, zAf]); refine endW.of (.inl rfl) rfl ?_) | refine endW.of (.inr rfl) rfl ?_); generalize e : zAo _ _ _ = r; simp (disch := omega) [hX, hZ, zA5, zA6, zA4, c58, c43] at e; subst e; (try dsimp only [goW]); (first | refine ⟨rfl, ?_⟩ | (refine hk _ _ ?_ ?_; omega; exact ut_))))
abbrev zB3 : CCode := (.loop true (.seq (.seq (.region [.v 0, .n 0, .f 2 0, .l 0, .g (.bin .eql (.loc 0) (.const (.int .i64 0))), .m (.loc 0), ⟨.mv (.var 0), (some (0, true))⟩, ⟨.call false 20 [(.loc 0)], (some (1, true))⟩, ⟨.fieldOf 0 none (.loc 0), (some (2, true))⟩, ⟨.bin .neq (.loc 0) (.const (.int .i64 5)), (some (3, true))⟩, .g (.pick (.loc 4) (.loc 0) (.const (.bool false)))] [(1, 10)] [] []) (.cond (.var 1) .skip (.exit 0))) (.block 1 (.block 2 (.seq (.region [.v 0, .g (.call false 21 [(.loc 0), (.const (.int .i64 4)), (.const (.str [59]))]), .m (.loc 0)] [(2, 2)] [] []) (.cond (.var 2) .skip (.seq (.region [.v 0, .g (.call false 22 [(.loc 0), (.const (.int .i64 1)), (.const (.str [112, 97, 99, 107, 97, 103, 101]))]), .m (.loc 0)] [(3, 2)] [] []) (.cond (.var 3) (.seq (.region [.v 0, .g (.fieldAddr 0 (.var 4)), .l 0, .g (.bin .neq (.loc 0) (.const (.str []))), .g (.call false 23 [(.loc 3), (.loc 0), (.const (.int .i64 5))])] [] [] []) (.seq (.region [.v 0, .g (.call false 24 [(.loc 0)])] [] [] []) (.seq (.region [.v 0, .v 0, .g (.call false 20 [(.loc 0)]), .g (.fieldOf 1 none (.loc 0)), .g (.call false 25 [(.loc 0), (.const (.str [46]))]), .g (.call false 23 [(.loc 4), (.loc 0), (.const (.int .i64 2))])] [] [] []) (.seq (.region [.v 0, .g (.call false 26 [(.loc 0), (.const (.int .i64 1))]), .g (.fieldOf 1 none (.loc 0)), .g (.fieldAddr 0 (.var 4)), .g (.store 1 (.loc 0) (.loc 1))] [] [] []) (.region [.v 0, .g (.call false 19 [(.loc 0), (.const (.str [59]))])] [] [] []))))) (.seq (.region [.v 0, .g (.call false 22 [(.loc 0), (.const (.int .i64 1)), (.const (.str [105, 109, 112, 111, 114, 116]))]), .m (.loc 0)] [(5, 2)] [] []) (.cond (.var 5) (.seq (.region [.v 0, .g (.fieldAddr 1 (.var 4)), .l 0, .g (.len false (.loc 0)), .g (.call false 27 [(.loc 3), (.loc 0)])] [] [] []) (.seq (.region [.v 0, .g (.call false 24 [(.loc 0)])] [] [] []) (.seq (.region [.g (.fieldAddr 1 (.var 4)), .l 0, .v 0, .g (.call false 26 [(.loc 0), (.const (.int .i64 3))]), .g (.fieldOf 1 none (.loc 0)), .g (.lit .imm false [(.str [])] 1 [(0, (.loc 0))]), .g (.append .imm 0 1 (.loc 4) (.loc 0)), .g (.fieldAddr 1 (.var 4)), .g (.store 1 (.loc 0) (.loc 1))] [] [(1, 0, 1)] []) (.region [.v 0, .g (.call false 19 [(.loc 0), (.const (.str [59]))])] [] [] [])))) (.seq (.region [.v 0, .g (.call false 22 [(.loc 0), (.const (.int .i64 1)), (.const (.str [109, 101, 115, 115, 97, 103, 101]))]), .m (.loc 0)] [(6, 2)] [] []) (.cond (.var 6) (.seq (.region [.v 0, .g (.fieldAddr 2 (.var 4)), .l 0, .g (.len false (.loc 0)), .g (.call false 27 [(.loc 3), (.loc 0)])] [] [] []) (.region [.g (.fieldAddr 2 (.var 4)), .l 0, .v 0, .g (.call false 28 [(.loc 0), (.const (.int .i64 0))]), .g (.lit .imm true [(.str []), .nils, .nils, .nils, .nils, .nils, .nils] 1 [(0, (.loc 0))]), .g (.append .imm 0 7 (.loc 3) (.loc 0)), .g (.fieldAddr 2 (.var 4)), .g (.store 1 (.loc 0) (.loc 1))] [] [(1, 0, 1)] [])) (.seq (.region [.v 0, .g (.call false 22 [(.loc 0), (.const (.int .i64 1)), (.const (.str [101, 110, 117, 109]))]), .m (.loc 0)] [(7, 2)] [] []) (.cond (.var 7) (.seq (.region [.v 0, .g (.fieldAddr 3 (.var 4)), .l 0, .g (.len false (.loc 0)), .g (.call false 27 [(.loc 3), (.loc 0)])] [] [] []) (.region [.g (.fieldAddr 3 (.var 4)), .l 0, .v 0, .g (.call false 29 [(.loc 0)]), .g (.lit .imm true [(.str []), .nils] 1 [(0, (.loc 0))]), .g (.append .imm 0 2 (.loc 3) (.loc 0)), .g (.fieldAddr 3 (.var 4)), .g (.store 1 (.loc 0) (.loc 1))] [] [(1, 0, 1)] [])) (.region [.v 0, .g (.call false 23 [(.loc 0), (.const (.bool true)), (.const (.int .i64 2))])] [] [] [])))))))))))))))
inductive It | imp (c : UInt8) | msg (c : UInt8) | enu (c : UInt8) | semi
abbrev Tk3 : Type := Nat × List UInt8 × Nat
def strip (t : Tok) : Tk3 := (t.1, t.2.1, t.2.2.1)
theorem tok_of {l : List Tok} {a j : Nat} {k : Nat} {tx : List UInt8} {n : Nat} (h : ((l.drop a).map strip)[j]? = some (k, tx, n)) : ∃ b, l[a + j]? = some (k, tx, n, b) := by
 rw [List.getElem?_map, List.getElem?_drop] at h
 cases hl : l[a + j]? with
 | none => rw [hl] at h; cases h
 | some t =>
  rw [hl] at h
  obtain ⟨k', tx', n', b⟩ := t
  simp only [Option.map_some, strip, Option.some.injEq, Prod.mk.injEq] at h
  obtain ⟨rfl, rfl, rfl⟩ := h
  exact ⟨b, rfl⟩
def LS (n0 p q k : Nat) (L : CVal) (ts : List CVal) (i : Nat) (h : CHeap) : Prop := L = .nils ∧ ts = [] ∨ ∃ v, L = .imm (.own i v) k ts ∧ ts ≠ [] ∧ zA2 h.ents i = some (.tok v) ∧ i ≠ p ∧ i ≠ q ∧ n0 ≤ i ∧ i < h.next
theorem setEnt_app_no {p n0 : Nat} {x : CObj} (hp : p < n0) : ∀ (pre E : List (Nat × CObj)), (∀ y ∈ pre, n0 ≤ y.1) → zA0 (pre ++ E) p x = pre ++ zA0 E p x
 | [], E, _ => rfl
 | a :: r, E, h => by
  have h1 := h a (by simp)
  have hne : (a.1 == p) = false := by simp; omega
  have ih := setEnt_app_no (x := x) hp r E (fun y hy => h y (by simp [hy]))
  obtain ⟨i, o⟩ := a
  simp only [List.cons_append, zA0]
  have hne' : (i == p) = false := hne
  simp [hne', ih]
  try omega
theorem Over.setP {n0 p : Nat} {E0 l : List (Nat × CObj)} {x y : CObj} (h : Over n0 (zA0 E0 p x) l) (hp : p < n0) : Over n0 (zA0 E0 p y) (zA0 l p y) := by
 obtain ⟨pre, rfl, h1, h2⟩ := h
 refine ⟨pre, ?_, h1, ?_⟩
 · rw [setEnt_app_no hp pre _ h1, zAj]
 · have := h2.set (m := p) (x := y)
   rwa [zAj] at this
theorem LS.keep {n0 p q k : Nat} {L : CVal} {ts : List CVal} {i : Nat} {h h' : CHeap} (s : LS n0 p q k L ts i h) (hn : h.next ≤ h'.next) (hk : L = .nils ∨ (i ≠ p → i ≠ q → i < h.next → zA2 h'.ents i = zA2 h.ents i)) : LS n0 p q k L ts i h' := by
 rcases s with s | ⟨v, h1, h0, h2, h3, h4, h5, h6⟩
 · exact .inl s
 · rcases hk with hk | hk
   · rw [hk] at h1; cases h1
   · exact .inr ⟨v, h1, h0, (hk h3 h4 h6).trans h2, h3, h4, h5, by omega⟩
theorem suf {l : List Tok} {a m : Nat} {x y : List Tk3} (h : (l.drop a).map strip = x ++ y) (hm : x.length = m) : (l.drop (a + m)).map strip = y := by
 rw [← List.drop_drop, List.map_drop, h, ← hm, List.drop_left]
theorem zA9 {l : List Tok} {a j : Nat} {x y : List Tk3} {k : Nat} {tx : List UInt8} {n : Nat} (h : (l.drop a).map strip = x ++ y) (hj : x[j]? = some (k, tx, n)) : ∃ b, l[a + j]? = some (k, tx, n, b) := by
 refine tok_of ?_
 rw [h, List.getElem?_append_left]
 · exact hj
 · exact (List.getElem?_eq_some_iff.1 hj).1
theorem fl_end (p d q dq : Nat) (l : List Tok) (hll : l.length < 100000) (a : Nat) (to : Int) (Q : CExit → CSt → Prop) (v1 v2 v3 v5 v6 v7 : CVal) (h : CHeap) (hf : Fit h) (hg : zA2 h.ents p = some (pr l (a : Int) 0 to)) (hp : p < h.next) (b0 : Nat) (hl0 : l[a + 0]? = some (5, [], 0, b0))
    (hk : ∀ n' ty w1 w2 w3 w5 w6 w7, h.next ≤ n' → zAb ty n' → Q (.exit 0) ⟨[.ptr p d 0, w1, w2, w3, .ptr q dq 0, w5, w6, w7], ⟨h.ents, n', ty⟩, []⟩) : W tree.getF zB3 ⟨[.ptr p d 0, v1, v2, v3, .ptr q dq 0, v5, v6, v7], h, []⟩ Q := by
 obtain ⟨hu, hut, hX⟩ := fx4 hf
 have hZ := fx6 hf hg
 refine W.loop ?_
 repeat (first | refine sq_ ?_ | refine bl_ ?_ | ((first | refine rg_ ?_ | refine go_ ?_); generalize e : goR _ _ _ _ _ _ _ _ = r; simp (disch := omega) [hX, hZ, zA5, zA6, zA4] at e; replace e : some _ = _ := e; subst e; (try dsimp only [goW])) | refine ct_ rfl ?_ | refine cf_ rfl ?_ | refine sk_ ?_ | refine ex_ ?_ | (refine p_word hl0 a 0 to fun _ _ g _ => ⟨rfl, ?_⟩; try dsimp only at g))
 all_goals ((try simp only [zAl, zA3, zAf]); refine hk _ _ _ _ _ _ _ _ ?_ ?_; (focus (omega; done)); exact ut_)
theorem p_failsE (l : List Tok) (a e to x : Int) (he : ¬ e = 0) (h : CHeap) (p d : Nat) (hf : Fit h) (hg : zA2 h.ents p = some (pr l a e to)) (hp : p < h.next) (K : CVal → CHeap → Prop) (hk : ∀ n2 ty, h.next ≤ n2 → zAb ty n2 → K (.tup []) ⟨h.ents, n2, ty⟩) : Wc tree.getF 23 [.ptr p d 0, .bool true, .int .i64 x] h K := by
 obtain ⟨hu, hut, hX⟩ := fx4 hf
 have hZ := fx6 hf hg
 refine Wc.mkG 23 c23 (by kernel_rfl) rfl ?_
 generalize e : zAa _ _ _ = r
 simp (disch := omega) [hX, hZ, c23] at e
 subst e
 repeat (first | refine sq_ ?_ | refine bl_ ?_ | ((first | refine rg_ ?_ | refine go_ ?_); generalize e : goR _ _ _ _ _ _ _ _ = r; simp (disch := omega) [hX, hZ, zA5, zA6, zA4, c23] at e; replace e : some _ = _ := e; subst e; (try dsimp only [goW])) | refine ct_ rfl ?_ | refine cf_ rfl ?_ | refine sk_ ?_ | refine ex_ ?_ | ((first | (refine W.ret ?_; (try simp only [zAl, zA3, zAf]); refine endW.of (.inl rfl) rfl ?_) | refine endW.of (.inr rfl) rfl ?_); generalize e : zAo _ _ _ = r; simp (disch := omega) [hX, hZ, zA5, zA6, zA4, c23] at e; subst e; (try dsimp only [goW]); (refine hk _ _ ?_ ?_; omega; exact ut_)))
theorem p_mostT {l : List Tok} {a k : Nat} {tx : List UInt8} {n at' : Nat} (hla : l[a]? = some (k, tx, n, at')) (ai to : Int) {h : CHeap} {p d : Nat} {K : CVal → CHeap → Prop} {m : Int} (hm : 30 ≤ m) (hk : ∀ n2 ty, h.next ≤ n2 → zAb ty n2 → K (.tup []) ⟨zA0 h.ents p (pr l ai 3 (at' : Int)), n2, ty⟩) (hll : l.length < 100000 := by assumption) (hai : ai = (a : Int) := by omega) (hf : Fit h := by exact ft_) (hg : zA2 h.ents p = some (pr l ai 0 to) := by exact ge2_) (hp : p < h.next := by exact lt_) : Wc tree.getF 27 [.ptr p d 0, .int .i64 m] h K := by
 obtain ⟨hu, hut, hX⟩ := fx4 hf
 have hZ := fx6 hf hg
 obtain ⟨hal, _⟩ := List.getElem?_eq_some_iff.1 hla
 have hn := nth_mapG tokV l a _ hla
 dsimp only [tokV] at hn
 have hat : ai.toNat = a := by omega
 have hal2 : ai ≤ (l.length : Int) - 1 := by omega
 have hmin : min ai ((l.length : Int) - 1) = ai := by omega
 refine Wc.mkG 27 c27 (by kernel_rfl) rfl ?_
 generalize e : zAa _ _ _ = r
 simp (disch := omega) [hX, hZ, c27] at e
 subst e
 repeat (first | refine sq_ ?_ | refine bl_ ?_ | ((first | refine rg_ ?_ | refine go_ ?_); generalize e : goR _ _ _ _ _ _ _ _ = r; simp (disch := omega) [hX, hZ, List.length_map, hn, hat, hmin, zA5, zA6, zA4, c27] at e; replace e : some _ = _ := e; subst e; (try dsimp only [goW])) | refine ct_ rfl ?_ | refine cf_ rfl ?_ | refine sk_ ?_ | refine ex_ ?_ | (refine p_failsT hla ai 0 to rfl fun _ _ g _ => ⟨rfl, ?_⟩; try dsimp only at g) | ((first | (refine W.ret ?_; (try simp only [zAl, zA3, zAf]); refine endW.of (.inl rfl) rfl ?_) | refine endW.of (.inr rfl) rfl ?_); generalize e : zAo _ _ _ = r; simp (disch := omega) [hX, hZ, List.length_map, hn, hat, hmin, zA5, zA6, zA4, c27] at e; subst e; (try dsimp only [goW]); (refine hk _ _ ?_ ?_; omega; exact ut_)))
theorem p_message0 {l : List Tok} {a : Nat} {nm : List UInt8} {b0 b1 b2 b3 : Nat} (hl0 : l[a + 0]? = some (1, [109, 101, 115, 115, 97, 103, 101], 0, b0)) (hl1 : l[a + 1]? = some (1, nm, 0, b1)) (hl2 : l[a + 2]? = some (4, [123], 0, b2)) (hl3 : l[a + 3]? = some (4, [125], 0, b3)) (to : Int) (hP : PlainOk nm) (dp : Int) (hdp : 0 ≤ dp ∧ dp < 20) {h : CHeap} {p d : Nat} {K : CVal → CHeap → Prop}
    (hk : ∀ n2 ty, h.next ≤ n2 → zAb ty n2 → K (.agg [.str nm, .nils, .nils, .nils, .nils, .nils, .nils]) ⟨zA0 h.ents p (pr l (((a : Int) + 1 + 1 + 1 + 1)) 0 to), n2, ty⟩) (hll : l.length < 100000 := by assumption) (hf : Fit h := by exact ft_) (hg : zA2 h.ents p = some (pr l (a : Int) 0 to) := by exact ge2_) (hp : p < h.next := by exact lt_) : Wc tree.getF 28 [.ptr p d 0, .int .i64 dp] h K := by
 obtain ⟨hu, hut, hX⟩ := fx4 hf
 have hZ := fx6 hf hg
 refine Wc.mkG 28 c28 (by kernel_rfl) rfl ?_
 generalize e : zAa _ _ _ = r
 simp (disch := omega) [hX, hZ, c28] at e
 subst e
 repeat (first | refine sq_ ?_ | refine bl_ ?_ | ((first | refine rg_ ?_ | refine go_ ?_); generalize e : goR _ _ _ _ _ _ _ _ = r; simp (disch := omega) [hX, hZ, zA5, zA6, zA4, c39, c28] at e; replace e : some _ = _ := e; subst e; (try dsimp only [goW])) | refine ct_ rfl ?_ | refine cf_ rfl ?_ | refine sk_ ?_ | refine ex_ ?_ | (refine W.loop ?_; try (generalize e : dropped _ _ _ = r; simp (disch := omega) [hX, hZ, zA5, zA6, zA4, c39, c28] at e; subst e; try dsimp only)) | (refine p_next hl0 a 0 to fun _ _ g _ => ⟨rfl, ?_⟩; try dsimp only at g) | (refine p_plain hl1 (a + 1) 0 to hP rfl fun _ _ g _ => ⟨rfl, ?_⟩; try dsimp only at g) | (refine p_sign hl2 (a + 1 + 1) 0 to rfl fun n2 ty2 hn2 hun2 => ⟨rfl, ?_⟩; try dsimp only at hn2) | (refine pu_ (p_failsF p d _) fun _ _ g _ => ⟨rfl, ?_⟩; try dsimp only at g) | (refine p_takeT hl3 (a + 1 + 1 + 1) 0 to rfl fun _ _ g _ => ⟨rfl, ?_⟩; try dsimp only at g) | (simp only [thenW_exit, zAf, zAl, reduceIte]; (try simp only [zB1])) | (refine Wc.mkG 39 c39 (by kernel_rfl) rfl ?_; generalize e : zAa _ _ _ = r; simp (disch := omega) [hX, hZ, zA5, zA6, zA4, c39, c28] at e; subst e) | ((first | (refine W.ret ?_; (try simp only [zAl, zA3, zAf]); refine endW.of (.inl rfl) rfl ?_) | refine endW.of (.inr rfl) rfl ?_); generalize e : zAo _ _ _ = r; simp (disch := omega) [hX, hZ, zA5, zA6, zA4, c39, c28] at e; subst e; (try dsimp only [goW]); (first | refine ⟨rfl, ?_⟩ | (refine hk _ _ ?_ ?_; omega; exact ut_))))
theorem p_messageE {l : List Tok} {a : Nat} {nm : List UInt8} {b0 b1 b2 : Nat} (hl0 : l[a + 0]? = some (1, [109, 101, 115, 115, 97, 103, 101], 0, b0)) (hl1 : l[a + 1]? = some (1, nm, 0, b1)) (hl2 : l[a + 2]? = some (4, [123], 0, b2)) (e to : Int) (he : ¬ e = 0) (hP : PlainOk nm) (dp : Int) (hdp : 0 ≤ dp ∧ dp < 20) {h : CHeap} {p d : Nat} {K : CVal → CHeap → Prop}
    (hk : ∀ n2 ty, h.next ≤ n2 → zAb ty n2 → K (.agg [.str nm, .nils, .nils, .nils, .nils, .nils, .nils]) ⟨zA0 h.ents p (pr l (((a : Int) + 1 + 1 + 1)) e to), n2, ty⟩) (hll : l.length < 100000 := by assumption) (hf : Fit h := by exact ft_) (hg : zA2 h.ents p = some (pr l (a : Int) e to) := by exact ge2_) (hp : p < h.next := by exact lt_) : Wc tree.getF 28 [.ptr p d 0, .int .i64 dp] h K := by
 obtain ⟨hu, hut, hX⟩ := fx4 hf
 have hZ := fx6 hf hg
 refine Wc.mkG 28 c28 (by kernel_rfl) rfl ?_
 generalize e : zAa _ _ _ = r
 simp (disch := omega) [hX, hZ, c28] at e
 subst e
 repeat (first | refine sq_ ?_ | refine bl_ ?_ | ((first | refine rg_ ?_ | refine go_ ?_); generalize e : goR _ _ _ _ _ _ _ _ = r; simp (disch := omega) [hX, hZ, zA5, zA6, zA4, c39, c28] at e; replace e : some _ = _ := e; subst e; (try dsimp only [goW])) | refine ct_ rfl ?_ | refine cf_ rfl ?_ | refine sk_ ?_ | refine ex_ ?_ | (refine W.loop ?_; try (generalize e : dropped _ _ _ = r; simp (disch := omega) [hX, hZ, zA5, zA6, zA4, c39, c28] at e; subst e; try dsimp only)) | (refine p_next hl0 a e to fun _ _ g _ => ⟨rfl, ?_⟩; try dsimp only at g) | (refine p_plain hl1 (a + 1) e to hP rfl fun _ _ g _ => ⟨rfl, ?_⟩; try dsimp only at g) | (refine p_sign hl2 (a + 1 + 1) e to rfl fun n2 ty2 hn2 hun2 => ⟨rfl, ?_⟩; try dsimp only at hn2) | (refine pu_ (p_failsF p d _) fun _ _ g _ => ⟨rfl, ?_⟩; try dsimp only at g) | (simp only [thenW_exit, zAf, zAl, reduceIte]; (try simp only [zB1])) | (refine Wc.mkG 39 c39 (by kernel_rfl) rfl ?_; generalize e : zAa _ _ _ = r; simp (disch := omega) [hX, hZ, zA5, zA6, zA4, c39, c28] at e; subst e) | ((first | (refine W.ret ?_; (try simp only [zAl, zA3, zAf]); refine endW.of (.inl rfl) rfl ?_) | refine endW.of (.inr rfl) rfl ?_); generalize e : zAo _ _ _ = r; simp (disch := omega) [hX, hZ, zA5, zA6, zA4, c39, c28] at e; subst e; (try dsimp only [goW]); (first | refine ⟨rfl, ?_⟩ | (refine hk _ _ ?_ ?_; omega; exact ut_))))
theorem p_enum0 {l : List Tok} {a : Nat} {nm : List UInt8} {b0 b1 b2 b3 : Nat} (hl0 : l[a + 0]? = some (1, [101, 110, 117, 109], 0, b0)) (hl1 : l[a + 1]? = some (1, nm, 0, b1)) (hl2 : l[a + 2]? = some (4, [123], 0, b2)) (hl3 : l[a + 3]? = some (4, [125], 0, b3)) (to : Int) (hP : PlainOk nm)  {h : CHeap} {p d : Nat} {K : CVal → CHeap → Prop}
    (hk : ∀ n2 ty, h.next ≤ n2 → zAb ty n2 → K (.agg [.str nm, .nils]) ⟨zA0 h.ents p (pr l (((a : Int) + 1 + 1 + 1 + 1)) 0 to), n2, ty⟩) (hll : l.length < 100000 := by assumption) (hf : Fit h := by exact ft_) (hg : zA2 h.ents p = some (pr l (a : Int) 0 to) := by exact ge2_) (hp : p < h.next := by exact lt_) : Wc tree.getF 29 [.ptr p d 0] h K := by
 obtain ⟨hu, hut, hX⟩ := fx4 hf
 have hZ := fx6 hf hg
 refine Wc.mkG 29 c29 (by kernel_rfl) rfl ?_
 generalize e : zAa _ _ _ = r
 simp (disch := omega) [hX, hZ, c29] at e
 subst e
 repeat (first | refine sq_ ?_ | refine bl_ ?_ | ((first | refine rg_ ?_ | refine go_ ?_); generalize e : goR _ _ _ _ _ _ _ _ = r; simp (disch := omega) [hX, hZ, zA5, zA6, zA4, c39, c29] at e; replace e : some _ = _ := e; subst e; (try dsimp only [goW])) | refine ct_ rfl ?_ | refine cf_ rfl ?_ | refine sk_ ?_ | refine ex_ ?_ | (refine W.loop ?_; try (generalize e : dropped _ _ _ = r; simp (disch := omega) [hX, hZ, zA5, zA6, zA4, c39, c29] at e; subst e; try dsimp only)) | (refine p_next hl0 a 0 to fun _ _ g _ => ⟨rfl, ?_⟩; try dsimp only at g) | (refine p_plain hl1 (a + 1) 0 to hP rfl fun _ _ g _ => ⟨rfl, ?_⟩; try dsimp only at g) | (refine p_sign hl2 (a + 1 + 1) 0 to rfl fun n2 ty2 hn2 hun2 => ⟨rfl, ?_⟩; try dsimp only at hn2) | (refine pu_ (p_failsF p d _) fun _ _ g _ => ⟨rfl, ?_⟩; try dsimp only at g) | (refine p_takeT hl3 (a + 1 + 1 + 1) 0 to rfl fun _ _ g _ => ⟨rfl, ?_⟩; try dsimp only at g) | (simp only [thenW_exit, zAf, zAl, reduceIte]; (try simp only [zB1])) | (refine Wc.mkG 39 c39 (by kernel_rfl) rfl ?_; generalize e : zAa _ _ _ = r; simp (disch := omega) [hX, hZ, zA5, zA6, zA4, c39, c29] at e; subst e) | ((first | (refine W.ret ?_; (try simp only [zAl, zA3, zAf]); refine endW.of (.inl rfl) rfl ?_) | refine endW.of (.inr rfl) rfl ?_); generalize e : zAo _ _ _ = r; simp (disch := omega) [hX, hZ, zA5, zA6, zA4, c39, c29] at e; subst e; (try dsimp only [goW]); (first | refine ⟨rfl, ?_⟩ | (refine hk _ _ ?_ ?_; omega; exact ut_))))
theorem p_enumE {l : List Tok} {a : Nat} {nm : List UInt8} {b0 b1 b2 : Nat} (hl0 : l[a + 0]? = some (1, [101, 110, 117, 109], 0, b0)) (hl1 : l[a + 1]? = some (1, nm, 0, b1)) (hl2 : l[a + 2]? = some (4, [123], 0, b2)) (e to : Int) (he : ¬ e = 0) (hP : PlainOk nm)  {h : CHeap} {p d : Nat} {K : CVal → CHeap → Prop}
    (hk : ∀ n2 ty, h.next ≤ n2 → zAb ty n2 → K (.agg [.str nm, .nils]) ⟨zA0 h.ents p (pr l (((a : Int) + 1 + 1 + 1)) e to), n2, ty⟩) (hll : l.length < 100000 := by assumption) (hf : Fit h := by exact ft_) (hg : zA2 h.ents p = some (pr l (a : Int) e to) := by exact ge2_) (hp : p < h.next := by exact lt_) : Wc tree.getF 29 [.ptr p d 0] h K := by
 obtain ⟨hu, hut, hX⟩ := fx4 hf
 have hZ := fx6 hf hg
 refine Wc.mkG 29 c29 (by kernel_rfl) rfl ?_
 generalize e : zAa _ _ _ = r
 simp (disch := omega) [hX, hZ, c29] at e
 subst e
 repeat (first | refine sq_ ?_ | refine bl_ ?_ | ((first | refine rg_ ?_ | refine go_ ?_); generalize e : goR _ _ _ _ _ _ _ _ = r; simp (disch := omega) [hX, hZ, zA5, zA6, zA4, c39, c29] at e; replace e : some _ = _ := e; subst e; (try dsimp only [goW])) | refine ct_ rfl ?_ | refine cf_ rfl ?_ | refine sk_ ?_ | refine ex_ ?_ | (refine W.loop ?_; try (generalize e : dropped _ _ _ = r; simp (disch := omega) [hX, hZ, zA5, zA6, zA4, c39, c29] at e; subst e; try dsimp only)) | (refine p_next hl0 a e to fun _ _ g _ => ⟨rfl, ?_⟩; try dsimp only at g) | (refine p_plain hl1 (a + 1) e to hP rfl fun _ _ g _ => ⟨rfl, ?_⟩; try dsimp only at g) | (refine p_sign hl2 (a + 1 + 1) e to rfl fun n2 ty2 hn2 hun2 => ⟨rfl, ?_⟩; try dsimp only at hn2) | (refine pu_ (p_failsF p d _) fun _ _ g _ => ⟨rfl, ?_⟩; try dsimp only at g) | (simp only [thenW_exit, zAf, zAl, reduceIte]; (try simp only [zB1])) | (refine Wc.mkG 39 c39 (by kernel_rfl) rfl ?_; generalize e : zAa _ _ _ = r; simp (disch := omega) [hX, hZ, zA5, zA6, zA4, c39, c29] at e; subst e) | ((first | (refine W.ret ?_; (try simp only [zAl, zA3, zAf]); refine endW.of (.inl rfl) rfl ?_) | refine endW.of (.inr rfl) rfl ?_); generalize e : zAo _ _ _ = r; simp (disch := omega) [hX, hZ, zA5, zA6, zA4, c39, c29] at e; subst e; (try dsimp only [goW]); (first | refine ⟨rfl, ?_⟩ | (refine hk _ _ ?_ ?_; omega; exact ut_))))
theorem fl_msg0_n (p d q dq : Nat) (hpq : p ≠ q) (l : List Tok) (hll : l.length < 100000) (a : Nat) (to : Int) (LI LE : CVal) (Q : CExit → CSt → Prop) (v1 v2 v3 v5 v6 v7 : CVal) (h : CHeap) (hf : Fit h) (hg : zA2 h.ents p = some (pr l (a : Int) 0 to)) (hp : p < h.next) (hqn : q < h.next)  (hq : zA2 h.ents q = some (.cells [.str [], LI, .nils, LE])) (b0 b1 b2 b3 : Nat) (nm : List UInt8) (hP : PlainOk nm) (hl0 : l[a + 0]? = some (1, [109, 101, 115, 115, 97, 103, 101], 0, b0)) (hl1 : l[a + 1]? = some (1, nm, 0, b1)) (hl2 : l[a + 2]? = some (4, [123], 0, b2)) (hl3 : l[a + 3]? = some (4, [125], 0, b3))
    (hk : ∀ z n' ty w1 w2 w3 w5 w6 w7, h.next ≤ z → z < n' → zAb ty n' → W tree.getF zB3 ⟨[.ptr p d 0, w1, w2, w3, .ptr q dq 0, w5, w6, w7], ⟨(z, .tok 0) :: zA0 (zA0 h.ents p (pr l ((a : Int) + 1 + 1 + 1 + 1) 0 to)) q (.cells [.str [], LI, .imm (.own z 0) 7 [.agg [.str nm, .nils, .nils, .nils, .nils, .nils, .nils]], LE]), n', ty⟩, []⟩ Q) : W tree.getF zB3 ⟨[.ptr p d 0, v1, v2, v3, .ptr q dq 0, v5, v6, v7], h, []⟩ Q := by
 obtain ⟨hu, hut, hX⟩ := fx4 hf
 have hZ := fxq hf hpq hg hq
 refine W.loop ?_
 repeat (first | refine sq_ ?_ | refine bl_ ?_ | ((first | refine rg_ ?_ | refine go_ ?_); generalize e : goR _ _ _ _ _ _ _ _ = r; simp (disch := omega) [hX, hZ, zA5, zA6, zA4, List.length_append, List.length_cons, List.length_nil] at e; replace e : some _ = _ := e; subst e; (try dsimp only [goW])) | refine ct_ rfl ?_ | refine cf_ rfl ?_ | refine sk_ ?_ | refine ex_ ?_ | (refine p_word hl0 a 0 to fun _ _ g _ => ⟨rfl, ?_⟩; try dsimp only at g) | (refine zB7 hl0 a 0 to rfl fun _ _ g _ => ⟨rfl, ?_⟩; try dsimp only at g) | (refine p_is hl0 a 0 to false rfl fun _ _ g _ => ⟨rfl, ?_⟩; try dsimp only at g) | (refine p_is hl0 a 0 to true rfl fun _ _ g _ => ⟨rfl, ?_⟩; try dsimp only at g) | (refine pu_ (p_mostF p d _ (by omega)) fun _ _ g _ => ⟨rfl, ?_⟩; try dsimp only at g) | (refine p_message0 hl0 hl1 hl2 hl3 to hP 0 ⟨by omega, by omega⟩ fun _ _ g _ => ⟨rfl, ?_⟩; try dsimp only at g))
 show W tree.getF zB3 (dropped true _ _) Q
 generalize e : dropped _ _ _ = r0
 simp (disch := omega) [hX, hZ, zA5, zA6, zA4, List.length_append, List.length_cons, List.length_nil] at e
 subst e
 try dsimp only
 refine hk _ _ _ _ _ _ _ _ _ ?_ ?_ ?_
 · (try dsimp only); omega
 · (try dsimp only); omega
 · exact ut_
theorem fl_msg0_o (p d q dq : Nat) (hpq : p ≠ q) (l : List Tok) (hll : l.length < 100000) (a : Nat) (to : Int) (LI LE : CVal) (Q : CExit → CSt → Prop) (v1 v2 v3 v5 v6 v7 : CVal) (h : CHeap) (hf : Fit h) (hg : zA2 h.ents p = some (pr l (a : Int) 0 to)) (hp : p < h.next) (hqn : q < h.next) (iq vq : Nat) (ts : List CVal) (hts : ts.length < 30) (hti : zA2 h.ents iq = some (.tok vq)) (hip : iq ≠ p) (hiq : iq ≠ q) (hin : iq < h.next) (hq : zA2 h.ents q = some (.cells [.str [], LI, .imm (.own iq vq) 7 ts, LE])) (b0 b1 b2 b3 : Nat) (nm : List UInt8) (hP : PlainOk nm) (hl0 : l[a + 0]? = some (1, [109, 101, 115, 115, 97, 103, 101], 0, b0)) (hl1 : l[a + 1]? = some (1, nm, 0, b1)) (hl2 : l[a + 2]? = some (4, [123], 0, b2)) (hl3 : l[a + 3]? = some (4, [125], 0, b3))
    (hk : ∀ n' ty w1 w2 w3 w5 w6 w7, h.next ≤ n' → zAb ty n' → W tree.getF zB3 ⟨[.ptr p d 0, w1, w2, w3, .ptr q dq 0, w5, w6, w7], ⟨zA0 (zA0 (zA0 h.ents p (pr l ((a : Int) + 1 + 1 + 1 + 1) 0 to)) iq (.tok (vq + 1))) q (.cells [.str [], LI, .imm (.own iq (vq + 1)) 7 (ts ++ [.agg [.str nm, .nils, .nils, .nils, .nils, .nils, .nils]]), LE]), n', ty⟩, []⟩ Q) : W tree.getF zB3 ⟨[.ptr p d 0, v1, v2, v3, .ptr q dq 0, v5, v6, v7], h, []⟩ Q := by
 obtain ⟨hu, hut, hX⟩ := fx4 hf
 have hZ := fxi hf hpq hg hq hti hip hiq
 refine W.loop ?_
 repeat (first | refine sq_ ?_ | refine bl_ ?_ | ((first | refine rg_ ?_ | refine go_ ?_); generalize e : goR _ _ _ _ _ _ _ _ = r; simp (disch := omega) [hX, hZ, zA5, zA6, zA4, zAd, List.length_append, List.length_cons, List.length_nil] at e; replace e : some _ = _ := e; subst e; (try dsimp only [goW])) | refine ct_ rfl ?_ | refine cf_ rfl ?_ | refine sk_ ?_ | refine ex_ ?_ | (refine p_word hl0 a 0 to fun _ _ g _ => ⟨rfl, ?_⟩; try dsimp only at g) | (refine zB7 hl0 a 0 to rfl fun _ _ g _ => ⟨rfl, ?_⟩; try dsimp only at g) | (refine p_is hl0 a 0 to false rfl fun _ _ g _ => ⟨rfl, ?_⟩; try dsimp only at g) | (refine p_is hl0 a 0 to true rfl fun _ _ g _ => ⟨rfl, ?_⟩; try dsimp only at g) | (refine pu_ (p_mostF p d _ (by omega)) fun _ _ g _ => ⟨rfl, ?_⟩; try dsimp only at g) | (refine p_message0 hl0 hl1 hl2 hl3 to hP 0 ⟨by omega, by omega⟩ fun _ _ g _ => ⟨rfl, ?_⟩; try dsimp only at g))
 show W tree.getF zB3 (dropped true _ _) Q
 generalize e : dropped _ _ _ = r0
 simp (disch := omega) [hX, hZ, zA5, zA6, zA4, zAd, List.length_append, List.length_cons, List.length_nil] at e
 subst e
 try dsimp only
 refine hk _ _ _ _ _ _ _ _ ?_ ?_
 · (try dsimp only); omega
 · exact ut_
theorem fl_msg0_X (p d q dq : Nat) (hpq : p ≠ q) (l : List Tok) (hll : l.length < 100000) (a : Nat) (to : Int) (LI LE : CVal) (Q : CExit → CSt → Prop) (v1 v2 v3 v5 v6 v7 : CVal) (h : CHeap) (hf : Fit h) (hg : zA2 h.ents p = some (pr l (a : Int) 0 to)) (hp : p < h.next) (hqn : q < h.next) (iq vq : Nat) (ts : List CVal) (hts : ts.length = 30) (hti : zA2 h.ents iq = some (.tok vq)) (hip : iq ≠ p) (hiq : iq ≠ q) (hin : iq < h.next) (hq : zA2 h.ents q = some (.cells [.str [], LI, .imm (.own iq vq) 7 ts, LE])) (b0 b1 b2 b3 : Nat) (nm : List UInt8) (hP : PlainOk nm) (hl0 : l[a + 0]? = some (1, [109, 101, 115, 115, 97, 103, 101], 0, b0)) (hl1 : l[a + 1]? = some (1, nm, 0, b1)) (hl2 : l[a + 2]? = some (4, [123], 0, b2)) (hl3 : l[a + 3]? = some (4, [125], 0, b3))
    (hk : ∀ n' ty w1 w2 w3 w5 w6 w7, h.next ≤ n' → zAb ty n' → Q (.exit 0) ⟨[.ptr p d 0, w1, w2, w3, .ptr q dq 0, w5, w6, w7], ⟨zA0 (zA0 (zA0 h.ents p (pr l ((a : Int) + 1 + 1 + 1) 3 (b0 : Int))) iq (.tok (vq + 1))) q (.cells [.str [], LI, .imm (.own iq (vq + 1)) 7 (ts ++ [.agg [.str nm, .nils, .nils, .nils, .nils, .nils, .nils]]), LE]), n', ty⟩, []⟩) : W tree.getF zB3 ⟨[.ptr p d 0, v1, v2, v3, .ptr q dq 0, v5, v6, v7], h, []⟩ Q := by
 obtain ⟨hu, hut, hX⟩ := fx4 hf
 have hZ := fxi hf hpq hg hq hti hip hiq
 refine W.loop ?_
 repeat (first | refine sq_ ?_ | refine bl_ ?_ | ((first | refine rg_ ?_ | refine go_ ?_); generalize e : goR _ _ _ _ _ _ _ _ = r; simp (disch := omega) [hX, hZ, zA5, zA6, zA4, zAd, List.length_append, List.length_cons, List.length_nil] at e; replace e : some _ = _ := e; subst e; (try dsimp only [goW])) | refine ct_ rfl ?_ | refine cf_ rfl ?_ | refine sk_ ?_ | refine ex_ ?_ | (refine W.loop ?_; try (generalize e : dropped _ _ _ = r; simp (disch := omega) [hX, hZ, zA5, zA6, zA4, zAd, List.length_append, List.length_cons, List.length_nil] at e; subst e; try dsimp only)) | (refine p_word hl0 a 0 to fun _ _ g _ => ⟨rfl, ?_⟩; try dsimp only at g) | (refine zB7 hl0 a 0 to rfl fun _ _ g _ => ⟨rfl, ?_⟩; try dsimp only at g) | (refine p_is hl0 a 0 to false rfl fun _ _ g _ => ⟨rfl, ?_⟩; try dsimp only at g) | (refine p_is hl0 a 0 to true rfl fun _ _ g _ => ⟨rfl, ?_⟩; try dsimp only at g) | (refine p_mostT hl0 a to (by omega) fun _ _ g _ => ⟨rfl, ?_⟩; try dsimp only at g) | (refine p_messageE hl0 hl1 hl2 3 b0 (by decide) hP 0 ⟨by omega, by omega⟩ fun _ _ g _ => ⟨rfl, ?_⟩; try dsimp only at g) | (simp only [thenW_exit, zAf, zAl, reduceIte]; (try simp only [zB1])))
 all_goals ((try simp only [zAl, zA3, zAf]); refine hk _ _ _ _ _ _ _ _ ?_ ?_; (try dsimp only); omega; exact ut_)
theorem fl_enu0_n (p d q dq : Nat) (hpq : p ≠ q) (l : List Tok) (hll : l.length < 100000) (a : Nat) (to : Int) (LI LM : CVal) (Q : CExit → CSt → Prop) (v1 v2 v3 v5 v6 v7 : CVal) (h : CHeap) (hf : Fit h) (hg : zA2 h.ents p = some (pr l (a : Int) 0 to)) (hp : p < h.next) (hqn : q < h.next)  (hq : zA2 h.ents q = some (.cells [.str [], LI, LM, .nils])) (b0 b1 b2 b3 : Nat) (nm : List UInt8) (hP : PlainOk nm) (hl0 : l[a + 0]? = some (1, [101, 110, 117, 109], 0, b0)) (hl1 : l[a + 1]? = some (1, nm, 0, b1)) (hl2 : l[a + 2]? = some (4, [123], 0, b2)) (hl3 : l[a + 3]? = some (4, [125], 0, b3))
    (hk : ∀ z n' ty w1 w2 w3 w5 w6 w7, h.next ≤ z → z < n' → zAb ty n' → W tree.getF zB3 ⟨[.ptr p d 0, w1, w2, w3, .ptr q dq 0, w5, w6, w7], ⟨(z, .tok 0) :: zA0 (zA0 h.ents p (pr l ((a : Int) + 1 + 1 + 1 + 1) 0 to)) q (.cells [.str [], LI, LM, .imm (.own z 0) 2 [.agg [.str nm, .nils]]]), n', ty⟩, []⟩ Q) : W tree.getF zB3 ⟨[.ptr p d 0, v1, v2, v3, .ptr q dq 0, v5, v6, v7], h, []⟩ Q := by
 obtain ⟨hu, hut, hX⟩ := fx4 hf
 have hZ := fxq hf hpq hg hq
 refine W.loop ?_
 repeat (first | refine sq_ ?_ | refine bl_ ?_ | ((first | refine rg_ ?_ | refine go_ ?_); generalize e : goR _ _ _ _ _ _ _ _ = r; simp (disch := omega) [hX, hZ, zA5, zA6, zA4, List.length_append, List.length_cons, List.length_nil] at e; replace e : some _ = _ := e; subst e; (try dsimp only [goW])) | refine ct_ rfl ?_ | refine cf_ rfl ?_ | refine sk_ ?_ | refine ex_ ?_ | (refine p_word hl0 a 0 to fun _ _ g _ => ⟨rfl, ?_⟩; try dsimp only at g) | (refine zB7 hl0 a 0 to rfl fun _ _ g _ => ⟨rfl, ?_⟩; try dsimp only at g) | (refine p_is hl0 a 0 to false rfl fun _ _ g _ => ⟨rfl, ?_⟩; try dsimp only at g) | (refine p_is hl0 a 0 to true rfl fun _ _ g _ => ⟨rfl, ?_⟩; try dsimp only at g) | (refine pu_ (p_mostF p d _ (by omega)) fun _ _ g _ => ⟨rfl, ?_⟩; try dsimp only at g) | (refine p_enum0 hl0 hl1 hl2 hl3 to hP fun _ _ g _ => ⟨rfl, ?_⟩; try dsimp only at g))
 show W tree.getF zB3 (dropped true _ _) Q
 generalize e : dropped _ _ _ = r0
 simp (disch := omega) [hX, hZ, zA5, zA6, zA4, List.length_append, List.length_cons, List.length_nil] at e
 subst e
 try dsimp only
 refine hk _ _ _ _ _ _ _ _ _ ?_ ?_ ?_
 · (try dsimp only); omega
 · (try dsimp only); omega
 · exact ut_
theorem fl_enu0_o (p d q dq : Nat) (hpq : p ≠ q) (l : List Tok) (hll : l.length < 100000) (a : Nat) (to : Int) (LI LM : CVal) (Q : CExit → CSt → Prop) (v1 v2 v3 v5 v6 v7 : CVal) (h : CHeap) (hf : Fit h) (hg : zA2 h.ents p = some (pr l (a : Int) 0 to)) (hp : p < h.next) (hqn : q < h.next) (iq vq : Nat) (ts : List CVal) (hts : ts.length < 30) (hti : zA2 h.ents iq = some (.tok vq)) (hip : iq ≠ p) (hiq : iq ≠ q) (hin : iq < h.next) (hq : zA2 h.ents q = some (.cells [.str [], LI, LM, .imm (.own iq vq) 2 ts])) (b0 b1 b2 b3 : Nat) (nm : List UInt8) (hP : PlainOk nm) (hl0 : l[a + 0]? = some (1, [101, 110, 117, 109], 0, b0)) (hl1 : l[a + 1]? = some (1, nm, 0, b1)) (hl2 : l[a + 2]? = some (4, [123], 0, b2)) (hl3 : l[a + 3]? = some (4, [125], 0, b3))
    (hk : ∀ n' ty w1 w2 w3 w5 w6 w7, h.next ≤ n' → zAb ty n' → W tree.getF zB3 ⟨[.ptr p d 0, w1, w2, w3, .ptr q dq 0, w5, w6, w7], ⟨zA0 (zA0 (zA0 h.ents p (pr l ((a : Int) + 1 + 1 + 1 + 1) 0 to)) iq (.tok (vq + 1))) q (.cells [.str [], LI, LM, .imm (.own iq (vq + 1)) 2 (ts ++ [.agg [.str nm, .nils]])]), n', ty⟩, []⟩ Q) : W tree.getF zB3 ⟨[.ptr p d 0, v1, v2, v3, .ptr q dq 0, v5, v6, v7], h, []⟩ Q := by
 obtain ⟨hu, hut, hX⟩ := fx4 hf
 have hZ := fxi hf hpq hg hq hti hip hiq
 refine W.loop ?_
 repeat (first | refine sq_ ?_ | refine bl_ ?_ | ((first | refine rg_ ?_ | refine go_ ?_); generalize e : goR _ _ _ _ _ _ _ _ = r; simp (disch := omega) [hX, hZ, zA5, zA6, zA4, zAd, List.length_append, List.length_cons, List.length_nil] at e; replace e : some _ = _ := e; subst e; (try dsimp only [goW])) | refine ct_ rfl ?_ | refine cf_ rfl ?_ | refine sk_ ?_ | refine ex_ ?_ | (refine p_word hl0 a 0 to fun _ _ g _ => ⟨rfl, ?_⟩; try dsimp only at g) | (refine zB7 hl0 a 0 to rfl fun _ _ g _ => ⟨rfl, ?_⟩; try dsimp only at g) | (refine p_is hl0 a 0 to false rfl fun _ _ g _ => ⟨rfl, ?_⟩; try dsimp only at g) | (refine p_is hl0 a 0 to true rfl fun _ _ g _ => ⟨rfl, ?_⟩; try dsimp only at g) | (refine pu_ (p_mostF p d _ (by omega)) fun _ _ g _ => ⟨rfl, ?_⟩; try dsimp only at g) | (refine p_enum0 hl0 hl1 hl2 hl3 to hP fun _ _ g _ => ⟨rfl, ?_⟩; try dsimp only at g))
 show W tree.getF zB3 (dropped true _ _) Q
 generalize e : dropped _ _ _ = r0
 simp (disch := omega) [hX, hZ, zA5, zA6, zA4, zAd, List.length_append, List.length_cons, List.length_nil] at e
 subst e
 try dsimp only
 refine hk _ _ _ _ _ _ _ _ ?_ ?_
 · (try dsimp only); omega
 · exact ut_
theorem fl_enu0_X (p d q dq : Nat) (hpq : p ≠ q) (l : List Tok) (hll : l.length < 100000) (a : Nat) (to : Int) (LI LM : CVal) (Q : CExit → CSt → Prop) (v1 v2 v3 v5 v6 v7 : CVal) (h : CHeap) (hf : Fit h) (hg : zA2 h.ents p = some (pr l (a : Int) 0 to)) (hp : p < h.next) (hqn : q < h.next) (iq vq : Nat) (ts : List CVal) (hts : ts.length = 30) (hti : zA2 h.ents iq = some (.tok vq)) (hip : iq ≠ p) (hiq : iq ≠ q) (hin : iq < h.next) (hq : zA2 h.ents q = some (.cells [.str [], LI, LM, .imm (.own iq vq) 2 ts])) (b0 b1 b2 b3 : Nat) (nm : List UInt8) (hP : PlainOk nm) (hl0 : l[a + 0]? = some (1, [101, 110, 117, 109], 0, b0)) (hl1 : l[a + 1]? = some (1, nm, 0, b1)) (hl2 : l[a + 2]? = some (4, [123], 0, b2)) (hl3 : l[a + 3]? = some (4, [125], 0, b3))
    (hk : ∀ n' ty w1 w2 w3 w5 w6 w7, h.next ≤ n' → zAb ty n' → Q (.exit 0) ⟨[.ptr p d 0, w1, w2, w3, .ptr q dq 0, w5, w6, w7], ⟨zA0 (zA0 (zA0 h.ents p (pr l ((a : Int) + 1 + 1 + 1) 3 (b0 : Int))) iq (.tok (vq + 1))) q (.cells [.str [], LI, LM, .imm (.own iq (vq + 1)) 2 (ts ++ [.agg [.str nm, .nils]])]), n', ty⟩, []⟩) : W tree.getF zB3 ⟨[.ptr p d 0, v1, v2, v3, .ptr q dq 0, v5, v6, v7], h, []⟩ Q := by
 obtain ⟨hu, hut, hX⟩ := fx4 hf
 have hZ := fxi hf hpq hg hq hti hip hiq
 refine W.loop ?_
 repeat (first | refine sq_ ?_ | refine bl_ ?_ | ((first | refine rg_ ?_ | refine go_ ?_); generalize e : goR _ _ _ _ _ _ _ _ = r; simp (disch := omega) [hX, hZ, zA5, zA6, zA4, zAd, List.length_append, List.length_cons, List.length_nil] at e; replace e : some _ = _ := e; subst e; (try dsimp only [goW])) | refine ct_ rfl ?_ | refine cf_ rfl ?_ | refine sk_ ?_ | refine ex_ ?_ | (refine W.loop ?_; try (generalize e : dropped _ _ _ = r; simp (disch := omega) [hX, hZ, zA5, zA6, zA4, zAd, List.length_append, List.length_cons, List.length_nil] at e; subst e; try dsimp only)) | (refine p_word hl0 a 0 to fun _ _ g _ => ⟨rfl, ?_⟩; try dsimp only at g) | (refine zB7 hl0 a 0 to rfl fun _ _ g _ => ⟨rfl, ?_⟩; try dsimp only at g) | (refine p_is hl0 a 0 to false rfl fun _ _ g _ => ⟨rfl, ?_⟩; try dsimp only at g) | (refine p_is hl0 a 0 to true rfl fun _ _ g _ => ⟨rfl, ?_⟩; try dsimp only at g) | (refine p_mostT hl0 a to (by omega) fun _ _ g _ => ⟨rfl, ?_⟩; try dsimp only at g) | (refine p_enumE hl0 hl1 hl2 3 b0 (by decide) hP fun _ _ g _ => ⟨rfl, ?_⟩; try dsimp only at g) | (simp only [thenW_exit, zAf, zAl, reduceIte]; (try simp only [zB1])))
 all_goals ((try simp only [zAl, zA3, zAf]); refine hk _ _ _ _ _ _ _ _ ?_ ?_; (try dsimp only); omega; exact ut_)
theorem fl_impx_n (p d q dq : Nat) (hpq : p ≠ q) (l : List Tok) (hll : l.length < 100000) (a : Nat) (to : Int) (LM LE : CVal) (Q : CExit → CSt → Prop) (v1 v2 v3 v5 v6 v7 : CVal) (h : CHeap) (hf : Fit h) (hg : zA2 h.ents p = some (pr l (a : Int) 0 to)) (hp : p < h.next) (hqn : q < h.next)  (hq : zA2 h.ents q = some (.cells [.str [], .nils, LM, LE])) (b0 b1 b2 : Nat) (tx : List UInt8) (hl0 : l[a + 0]? = some (1, [105, 109, 112, 111, 114, 116], 0, b0)) (hl1 : l[a + 1]? = some (3, tx, 0, b1)) (hl2 : l[a + 2]? = some (4, [59], 0, b2))
    (hk : ∀ z n' ty w1 w2 w3 w5 w6 w7, h.next ≤ z → z < n' → zAb ty n' → W tree.getF zB3 ⟨[.ptr p d 0, w1, w2, w3, .ptr q dq 0, w5, w6, w7], ⟨(z, .tok 0) :: zA0 (zA0 h.ents p (pr l ((a : Int) + 1 + 1 + 1) 0 to)) q (.cells [.str [], .imm (.own z 0) 1 [.str tx], LM, LE]), n', ty⟩, []⟩ Q) : W tree.getF zB3 ⟨[.ptr p d 0, v1, v2, v3, .ptr q dq 0, v5, v6, v7], h, []⟩ Q := by
 obtain ⟨hu, hut, hX⟩ := fx4 hf
 have hZ := fxq hf hpq hg hq
 refine W.loop ?_
 repeat (first | refine sq_ ?_ | refine bl_ ?_ | ((first | refine rg_ ?_ | refine go_ ?_); generalize e : goR _ _ _ _ _ _ _ _ = r; simp (disch := omega) [hX, hZ, zA5, zA6, zA4, List.length_append, List.length_cons, List.length_nil] at e; replace e : some _ = _ := e; subst e; (try dsimp only [goW])) | refine ct_ rfl ?_ | refine cf_ rfl ?_ | refine sk_ ?_ | refine ex_ ?_ | (refine p_word hl0 a 0 to fun _ _ g _ => ⟨rfl, ?_⟩; try dsimp only at g) | (refine zB7 hl0 a 0 to rfl fun _ _ g _ => ⟨rfl, ?_⟩; try dsimp only at g) | (refine p_is hl0 a 0 to false rfl fun _ _ g _ => ⟨rfl, ?_⟩; try dsimp only at g) | (refine p_is hl0 a 0 to true rfl fun _ _ g _ => ⟨rfl, ?_⟩; try dsimp only at g) | (refine pu_ (p_mostF p d _ (by omega)) fun _ _ g _ => ⟨rfl, ?_⟩; try dsimp only at g) | (refine p_next hl0 a 0 to fun _ _ g _ => ⟨rfl, ?_⟩; try dsimp only at g) | (refine p_of hl1 (a + 1) 0 to rfl fun _ _ g _ => ⟨rfl, ?_⟩; try dsimp only at g) | (refine p_sign hl2 (a + 1 + 1) 0 to rfl fun _ _ g _ => ⟨rfl, ?_⟩; try dsimp only at g))
 show W tree.getF zB3 (dropped true _ _) Q
 generalize e : dropped _ _ _ = r0
 simp (disch := omega) [hX, hZ, zA5, zA6, zA4, List.length_append, List.length_cons, List.length_nil] at e
 subst e
 try dsimp only
 refine hk _ _ _ _ _ _ _ _ _ ?_ ?_ ?_
 · (try dsimp only); omega
 · (try dsimp only); omega
 · exact ut_
theorem fl_impx_o (p d q dq : Nat) (hpq : p ≠ q) (l : List Tok) (hll : l.length < 100000) (a : Nat) (to : Int) (LM LE : CVal) (Q : CExit → CSt → Prop) (v1 v2 v3 v5 v6 v7 : CVal) (h : CHeap) (hf : Fit h) (hg : zA2 h.ents p = some (pr l (a : Int) 0 to)) (hp : p < h.next) (hqn : q < h.next) (iq vq : Nat) (ts : List CVal) (hts : ts.length < 30) (hti : zA2 h.ents iq = some (.tok vq)) (hip : iq ≠ p) (hiq : iq ≠ q) (hin : iq < h.next) (hq : zA2 h.ents q = some (.cells [.str [], .imm (.own iq vq) 1 ts, LM, LE])) (b0 b1 b2 : Nat) (tx : List UInt8) (hl0 : l[a + 0]? = some (1, [105, 109, 112, 111, 114, 116], 0, b0)) (hl1 : l[a + 1]? = some (3, tx, 0, b1)) (hl2 : l[a + 2]? = some (4, [59], 0, b2))
    (hk : ∀ n' ty w1 w2 w3 w5 w6 w7, h.next ≤ n' → zAb ty n' → W tree.getF zB3 ⟨[.ptr p d 0, w1, w2, w3, .ptr q dq 0, w5, w6, w7], ⟨zA0 (zA0 (zA0 h.ents p (pr l ((a : Int) + 1 + 1 + 1) 0 to)) iq (.tok (vq + 1))) q (.cells [.str [], .imm (.own iq (vq + 1)) 1 (ts ++ [.str tx]), LM, LE]), n', ty⟩, []⟩ Q) : W tree.getF zB3 ⟨[.ptr p d 0, v1, v2, v3, .ptr q dq 0, v5, v6, v7], h, []⟩ Q := by
 obtain ⟨hu, hut, hX⟩ := fx4 hf
 have hZ := fxi hf hpq hg hq hti hip hiq
 refine W.loop ?_
 repeat (first | refine sq_ ?_ | refine bl_ ?_ | ((first | refine rg_ ?_ | refine go_ ?_); generalize e : goR _ _ _ _ _ _ _ _ = r; simp (disch := omega) [hX, hZ, zA5, zA6, zA4, zAd, List.length_append, List.length_cons, List.length_nil] at e; replace e : some _ = _ := e; subst e; (try dsimp only [goW])) | refine ct_ rfl ?_ | refine cf_ rfl ?_ | refine sk_ ?_ | refine ex_ ?_ | (refine p_word hl0 a 0 to fun _ _ g _ => ⟨rfl, ?_⟩; try dsimp only at g) | (refine zB7 hl0 a 0 to rfl fun _ _ g _ => ⟨rfl, ?_⟩; try dsimp only at g) | (refine p_is hl0 a 0 to false rfl fun _ _ g _ => ⟨rfl, ?_⟩; try dsimp only at g) | (refine p_is hl0 a 0 to true rfl fun _ _ g _ => ⟨rfl, ?_⟩; try dsimp only at g) | (refine pu_ (p_mostF p d _ (by omega)) fun _ _ g _ => ⟨rfl, ?_⟩; try dsimp only at g) | (refine p_next hl0 a 0 to fun _ _ g _ => ⟨rfl, ?_⟩; try dsimp only at g) | (refine p_of hl1 (a + 1) 0 to rfl fun _ _ g _ => ⟨rfl, ?_⟩; try dsimp only at g) | (refine p_sign hl2 (a + 1 + 1) 0 to rfl fun _ _ g _ => ⟨rfl, ?_⟩; try dsimp only at g))
 show W tree.getF zB3 (dropped true _ _) Q
 generalize e : dropped _ _ _ = r0
 simp (disch := omega) [hX, hZ, zA5, zA6, zA4, zAd, List.length_append, List.length_cons, List.length_nil] at e
 subst e
 try dsimp only
 refine hk _ _ _ _ _ _ _ _ ?_ ?_
 · (try dsimp only); omega
 · exact ut_
theorem fl_impx_X (p d q dq : Nat) (hpq : p ≠ q) (l : List Tok) (hll : l.length < 100000) (a : Nat) (to : Int) (LM LE : CVal) (Q : CExit → CSt → Prop) (v1 v2 v3 v5 v6 v7 : CVal) (h : CHeap) (hf : Fit h) (hg : zA2 h.ents p = some (pr l (a : Int) 0 to)) (hp : p < h.next) (hqn : q < h.next) (iq vq : Nat) (ts : List CVal) (hts : ts.length = 30) (hti : zA2 h.ents iq = some (.tok vq)) (hip : iq ≠ p) (hiq : iq ≠ q) (hin : iq < h.next) (hq : zA2 h.ents q = some (.cells [.str [], .imm (.own iq vq) 1 ts, LM, LE])) (b0 b1 b2 : Nat) (tx : List UInt8) (hl0 : l[a + 0]? = some (1, [105, 109, 112, 111, 114, 116], 0, b0)) (hl1 : l[a + 1]? = some (3, tx, 0, b1)) (hl2 : l[a + 2]? = some (4, [59], 0, b2))
    (hk : ∀ n' ty w1 w2 w3 w5 w6 w7, h.next ≤ n' → zAb ty n' → Q (.exit 0) ⟨[.ptr p d 0, w1, w2, w3, .ptr q dq 0, w5, w6, w7], ⟨zA0 (zA0 (zA0 h.ents p (pr l ((a : Int) + 1 + 1 + 1) 3 (b0 : Int))) iq (.tok (vq + 1))) q (.cells [.str [], .imm (.own iq (vq + 1)) 1 (ts ++ [.str tx]), LM, LE]), n', ty⟩, []⟩) : W tree.getF zB3 ⟨[.ptr p d 0, v1, v2, v3, .ptr q dq 0, v5, v6, v7], h, []⟩ Q := by
 obtain ⟨hu, hut, hX⟩ := fx4 hf
 have hZ := fxi hf hpq hg hq hti hip hiq
 refine W.loop ?_
 repeat (first | refine sq_ ?_ | refine bl_ ?_ | ((first | refine rg_ ?_ | refine go_ ?_); generalize e : goR _ _ _ _ _ _ _ _ = r; simp (disch := omega) [hX, hZ, zA5, zA6, zA4, zAd, List.length_append, List.length_cons, List.length_nil] at e; replace e : some _ = _ := e; subst e; (try dsimp only [goW])) | refine ct_ rfl ?_ | refine cf_ rfl ?_ | refine sk_ ?_ | refine ex_ ?_ | (refine W.loop ?_; try (generalize e : dropped _ _ _ = r; simp (disch := omega) [hX, hZ, zA5, zA6, zA4, zAd, List.length_append, List.length_cons, List.length_nil] at e; subst e; try dsimp only)) | (refine p_word hl0 a 0 to fun _ _ g _ => ⟨rfl, ?_⟩; try dsimp only at g) | (refine zB7 hl0 a 0 to rfl fun _ _ g _ => ⟨rfl, ?_⟩; try dsimp only at g) | (refine p_is hl0 a 0 to false rfl fun _ _ g _ => ⟨rfl, ?_⟩; try dsimp only at g) | (refine p_is hl0 a 0 to true rfl fun _ _ g _ => ⟨rfl, ?_⟩; try dsimp only at g) | (refine p_mostT hl0 a to (by omega) fun _ _ g _ => ⟨rfl, ?_⟩; try dsimp only at g) | (refine p_next hl0 a 3 b0 fun _ _ g _ => ⟨rfl, ?_⟩; try dsimp only at g) | (refine p_of hl1 (a + 1) 3 b0 rfl fun _ _ g _ => ⟨rfl, ?_⟩; try dsimp only at g) | (refine p_sign hl2 (a + 1 + 1) 3 b0 rfl fun _ _ g _ => ⟨rfl, ?_⟩; try dsimp only at g) | (simp only [thenW_exit, zAf, zAl, reduceIte]; (try simp only [zB1])))
 all_goals ((try simp only [zAl, zA3, zAf]); refine hk _ _ _ _ _ _ _ _ ?_ ?_; (try dsimp only); omega; exact ut_)
def TokTop (m : Nat) (l : List (Nat × CObj)) : Prop := ∀ y ∈ l, m ≤ y.1 → ∃ v, y.2 = .tok v
theorem TokTop.drop {m m' : Nat} (hm : m ≤ m') : ∀ {l : List (Nat × CObj)}, TokTop m l → zAc l m' = l
 | [], _ => rfl
 | (i, x) :: r, h => by
  have ih := TokTop.drop hm (l := r) fun y hy => h y (by simp [hy])
  unfold zAc
  by_cases hi : m' ≤ i
  · obtain ⟨v, hv⟩ := h (i, x) (by simp) (by omega)
    dsimp only at hv
    subst hv
    rw [if_pos hi, ih]
  · rw [if_neg hi]
theorem TokTop.cons {m z v : Nat} {l : List (Nat × CObj)} (h : TokTop m l) : TokTop m ((z, .tok v) :: l) := by
 intro y hy hm
 rcases List.mem_cons.1 hy with rfl | hy
 · exact ⟨v, rfl⟩
 · exact h y hy hm
theorem mem_setEnt {k : Nat} {x : CObj} : ∀ {l : List (Nat × CObj)} {y : Nat × CObj}, y ∈ zA0 l k x → y ∈ l ∨ y = (k, x)
 | [], y, h => by simp [zA0] at h
 | (i, o) :: r, y, h => by
  unfold zA0 at h
  split at h
  · rename_i e
    have e' : i = k := by simpa using e
    rcases List.mem_cons.1 h with rfl | h
    · exact .inr (by rw [e'])
    · exact .inl (by simp [h])
  · rcases List.mem_cons.1 h with rfl | h
    · exact .inl (by simp)
    · rcases mem_setEnt h with h | h
      · exact .inl (by simp [h])
      · exact .inr h
theorem TokTop.setT {m k v : Nat} {l : List (Nat × CObj)} (h : TokTop m l) : TokTop m (zA0 l k (.tok v)) := by
 intro y hy hm
 rcases mem_setEnt hy with hy | rfl
 · exact h y hy hm
 · exact ⟨v, rfl⟩
theorem TokTop.setC {m k : Nat} {x : CObj} {l : List (Nat × CObj)} (h : TokTop m l) (hk : k < m) : TokTop m (zA0 l k x) := by
 intro y hy hm
 rcases mem_setEnt hy with hy | rfl
 · exact h y hy hm
 · (try dsimp only at hm); omega
theorem TokTop.under {m n : Nat} {l : List (Nat × CObj)} (h : Under l n) (hn : n ≤ m) : TokTop m l := by
 intro y hy hm
 have := h y hy
 omega
def Ro (m0 p q : Nat) (RO : List (Nat × CObj)) (h : CHeap) : Prop := ∀ y ∈ RO, zA2 h.ents y.1 = some y.2 ∧ y.1 ≠ p ∧ y.1 ≠ q ∧ y.1 < m0
structure S1 (n0 m0 : Nat) (E0 RO : List (Nat × CObj)) (p q : Nat) (l : List Tok) (a : Nat) (e to : Int) (C : CVal → CObj) (k : Nat) (L : CVal) (ts : List CVal) (i : Nat) (h : CHeap) : Prop where
 g : zA2 h.ents p = some (pr l (a : Int) e to)
 gq : zA2 h.ents q = some (C L)
 s : LS m0 p q k L ts i h
 ro : Ro m0 p q RO h
 d : Over n0 (zA0 E0 p (pr l (a : Int) e to)) h.ents
 tt : TokTop m0 h.ents
 np : p < n0
 nq : n0 ≤ q
 nm : n0 ≤ m0
 mh : m0 ≤ h.next
 qm : q < m0
 lp : p < h.next
 lq : q < h.next
 pq : p ≠ q
 f : Fit h
theorem S1.nil {n0 m0 : Nat} {E0 RO : List (Nat × CObj)} {p q : Nat} {l : List Tok} {a a' : Nat} {e to e' to' : Int} {C : CVal → CObj} {k i z n' : Nat} {ts : List CVal} {h : CHeap} {ty : List (Nat × Nat)} {x : CVal} {b : Int} (S : S1 n0 m0 E0 RO p q l a e to C k .nils ts i h) (hb : b = (a' : Int)) (hz : h.next ≤ z) (hn : z < n') (ht : zAb ty n') :
    S1 n0 m0 E0 RO p q l a' e' to' C k (.imm (.own z 0) k [x]) [x] z ⟨(z, .tok 0) :: zA0 (zA0 h.ents p (pr l b e' to')) q (C (.imm (.own z 0) k [x])), n', ty⟩ := by
 subst hb
 have hlp := S.lp; have hlq := S.lq; have hnp := S.np; have hnq := S.nq; have hpq := S.pq; have hqm := S.qm; have hnm := S.nm; have hmh := S.mh
 have hqp : q ≠ p := fun e => hpq e.symm
 have hzp : (z == p) = false := by simp; omega
 have hzq : (z == q) = false := by simp; omega
 exact {
  g := by simp only [zA2, hzp, Bool.false_eq_true, if_false]; exact (zA1 hpq).trans (zA7 S.g)
  gq := by simp only [zA2, hzq, Bool.false_eq_true, if_false]; exact zA7 ((zA1 hqp).trans S.gq)
  s := .inr ⟨0, rfl, by simp, by simp [zA2], by omega, by omega, by omega, hn⟩
  ro := by
   intro y hy
   obtain ⟨h1, h2, h3, h4⟩ := S.ro y hy
   have hzy : (z == y.1) = false := by simp; omega
   refine ⟨?_, h2, h3, h4⟩
   simp only [zA2, hzy, Bool.false_eq_true, if_false]
   exact (zA1 h3).trans ((zA1 h2).trans h1)
  d := ((S.d.setP hnp).set hnq).cons (by omega)
  tt := ((S.tt.setC (by omega)).setC hqm).cons
  np := hnp
  nq := hnq
  nm := hnm
  mh := by (try dsimp only); omega
  qm := hqm
  lp := by (try dsimp only); omega
  lq := by (try dsimp only); omega
  pq := hpq
  f := ⟨Under.cons hn (S.f.1.set.set.le (by (try dsimp only); omega)), ht⟩ }
theorem S1.own {n0 m0 : Nat} {E0 RO : List (Nat × CObj)} {p q : Nat} {l : List Tok} {a a' : Nat} {e to e' to' : Int} {C : CVal → CObj} {k i v n' : Nat} {ts : List CVal} {h : CHeap} {ty : List (Nat × Nat)} {x : CVal} {b : Int} (S : S1 n0 m0 E0 RO p q l a e to C k (.imm (.own i v) k ts) ts i h) (hti : zA2 h.ents i = some (.tok v)) (hip : i ≠ p) (hiq : i ≠ q) (hi0 : m0 ≤ i) (hin : i < h.next) (hb : b = (a' : Int)) (hn : h.next ≤ n') (ht : zAb ty n') :
    S1 n0 m0 E0 RO p q l a' e' to' C k (.imm (.own i (v + 1)) k (ts ++ [x])) (ts ++ [x]) i ⟨zA0 (zA0 (zA0 h.ents p (pr l b e' to')) i (.tok (v + 1))) q (C (.imm (.own i (v + 1)) k (ts ++ [x]))), n', ty⟩ := by
 subst hb
 have hlp := S.lp; have hlq := S.lq; have hnp := S.np; have hnq := S.nq; have hpq := S.pq; have hqm := S.qm; have hnm := S.nm; have hmh := S.mh
 have hqp : q ≠ p := fun e => hpq e.symm
 have hpi : p ≠ i := fun e => hip e.symm
 have hqi : q ≠ i := fun e => hiq e.symm
 exact {
  g := (zA1 hpq).trans ((zA1 hpi).trans (zA7 S.g))
  gq := zA7 ((zA1 hqi).trans ((zA1 hqp).trans S.gq))
  s := .inr ⟨v + 1, rfl, by simp, (zA1 hiq).trans (zA7 ((zA1 hip).trans hti)), hip, hiq, hi0, by (try dsimp only); omega⟩
  ro := by
   intro y hy
   obtain ⟨h1, h2, h3, h4⟩ := S.ro y hy
   refine ⟨?_, h2, h3, h4⟩
   exact (zA1 h3).trans ((zA1 (by omega)).trans ((zA1 h2).trans h1))
  d := ((S.d.setP hnp).set (by omega)).set hnq
  tt := ((S.tt.setC (by omega)).setT).setC hqm
  np := hnp
  nq := hnq
  nm := hnm
  mh := by (try dsimp only); omega
  qm := hqm
  lp := by (try dsimp only); omega
  lq := by (try dsimp only); omega
  pq := hpq
  f := ⟨S.f.1.set.set.set.le hn, ht⟩ }
theorem S1.pass {n0 m0 : Nat} {E0 RO : List (Nat × CObj)} {p q : Nat} {l : List Tok} {a a' : Nat} {e to e' to' : Int} {C : CVal → CObj} {k i n' : Nat} {L : CVal} {ts : List CVal} {h : CHeap} {ty : List (Nat × Nat)} {b : Int} (S : S1 n0 m0 E0 RO p q l a e to C k L ts i h) (hb : b = (a' : Int)) (hn : h.next ≤ n') (ht : zAb ty n') :
    S1 n0 m0 E0 RO p q l a' e' to' C k L ts i ⟨zA0 h.ents p (pr l b e' to'), n', ty⟩ := by
 subst hb
 have hlp := S.lp; have hlq := S.lq; have hnp := S.np; have hnq := S.nq; have hpq := S.pq; have hqm := S.qm; have hnm := S.nm; have hmh := S.mh
 have hqp : q ≠ p := fun e => hpq e.symm
 exact {
  g := zA7 S.g
  gq := (zA1 hqp).trans S.gq
  s := S.s.keep hn (.inr fun h1 _ _ => zA1 h1)
  ro := by
   intro y hy
   obtain ⟨h1, h2, h3, h4⟩ := S.ro y hy
   exact ⟨(zA1 h2).trans h1, h2, h3, h4⟩
  d := S.d.setP hnp
  tt := S.tt.setC (by omega)
  np := hnp
  nq := hnq
  nm := hnm
  mh := by (try dsimp only); omega
  qm := hqm
  lp := by (try dsimp only); omega
  lq := by (try dsimp only); omega
  pq := hpq
  f := ⟨S.f.1.set.le hn, ht⟩ }
theorem S1.skip {n0 m0 : Nat} {E0 RO : List (Nat × CObj)} {p q : Nat} {l : List Tok} {a : Nat} {e to : Int} {C : CVal → CObj} {k i n' : Nat} {L : CVal} {ts : List CVal} {h : CHeap} {ty : List (Nat × Nat)} (S : S1 n0 m0 E0 RO p q l a e to C k L ts i h) (hn : h.next ≤ n') (ht : zAb ty n') :
    S1 n0 m0 E0 RO p q l a e to C k L ts i ⟨h.ents, n', ty⟩ := by
 have hlp := S.lp; have hlq := S.lq
 exact { S with
  s := S.s.keep hn (.inr fun _ _ _ => rfl)
  mh := by have := S.mh; (try dsimp only); omega
  ro := S.ro
  lp := by (try dsimp only); omega
  lq := by (try dsimp only); omega
  f := ⟨S.f.1.le hn, ht⟩ }
theorem rounds {n0 m0 : Nat} {E0 RO : List (Nat × CObj)} {p q : Nat} {l : List Tok} (to : Int) {C : CVal → CObj} {k : Nat} (x : CVal) (T U : List Tk3) (cX tl : Nat) (P F : CHeap → Prop) (n9 : Nat)
    (hN : ∀ (a : Nat) (h : CHeap), Ro m0 p q RO h → Fit h → zA2 h.ents p = some (pr l (a : Int) 0 to) → p < h.next → q < h.next → zA2 h.ents q = some (C .nils) → (∃ y, (l.drop a).map strip = T ++ y) → (∀ z n' ty b, b = ((a + T.length : Nat) : Int) → h.next ≤ z → z < n' → zAb ty n' → P ⟨(z, .tok 0) :: zA0 (zA0 h.ents p (pr l b 0 to)) q (C (.imm (.own z 0) k [x])), n', ty⟩) → P h)
    (hO : ∀ (a : Nat) (h : CHeap) (i v : Nat) (ts : List CVal), Ro m0 p q RO h → Fit h → zA2 h.ents p = some (pr l (a : Int) 0 to) → p < h.next → q < h.next → ts.length < 30 → zA2 h.ents i = some (.tok v) → i ≠ p → i ≠ q → i < h.next → zA2 h.ents q = some (C (.imm (.own i v) k ts)) → (∃ y, (l.drop a).map strip = T ++ y) → (∀ n' ty b, b = ((a + T.length : Nat) : Int) → h.next ≤ n' → zAb ty n' → P ⟨zA0 (zA0 (zA0 h.ents p (pr l b 0 to)) i (.tok (v + 1))) q (C (.imm (.own i (v + 1)) k (ts ++ [x]))), n', ty⟩) → P h)
    (hX : ∀ (a : Nat) (h : CHeap) (i v : Nat) (ts : List CVal), Ro m0 p q RO h → Fit h → zA2 h.ents p = some (pr l (a : Int) 0 to) → p < h.next → q < h.next → ts.length = 30 → zA2 h.ents i = some (.tok v) → i ≠ p → i ≠ q → i < h.next → zA2 h.ents q = some (C (.imm (.own i v) k ts)) → (∃ y, (l.drop a).map strip = T ++ y) → (∀ n' ty b to', b = ((a + cX : Nat) : Int) → h.next ≤ n' → zAb ty n' → F ⟨zA0 (zA0 (zA0 h.ents p (pr l b 3 to')) i (.tok (v + 1))) q (C (.imm (.own i (v + 1)) k (ts ++ [x]))), n', ty⟩) → P h)
    (hE : ∀ (a : Nat) (h : CHeap), Ro m0 p q RO h → Fit h → zA2 h.ents p = some (pr l (a : Int) 0 to) → p < h.next → (l.drop a).map strip = U → (∀ n' ty b, b = ((a + tl : Nat) : Int) → h.next ≤ n' → zAb ty n' → F ⟨zA0 h.ents p (pr l b 0 to), n', ty⟩) → P h)
    (a9 r9 : Nat) (hx9 : 30 < r9 ∨ r9 ≤ 30)
    (hF : ∀ h' a' e' to' L ts i, S1 n0 m0 E0 RO p q l a' e' to' C k L ts i h' → (r9 ≤ 30 ∧ e' = 0 ∧ ts = List.replicate r9 x ∧ a' = a9 + T.length * r9 + tl ∧ to' = to ∨ 30 < r9 ∧ e' = 3 ∧ ts.length = 31) → n9 ≤ h'.next → F h') :
    ∀ (r : Nat) (a : Nat) (L : CVal) (j i : Nat) (h : CHeap), S1 n0 m0 E0 RO p q l a 0 to C k L (List.replicate j x) i h → j ≤ 30 → j + r = r9 → a = a9 + T.length * j → (l.drop a).map strip = (List.replicate r T).flatten ++ U → n9 ≤ h.next → P h := by
 intro r
 induction r with
 | zero =>
  intro a L j i h S hj hjr ha hsuf hn
  refine hE a h S.ro S.f S.g S.lp (by simpa using hsuf) ?_
  intro n' ty b hb g1 g2
  refine hF _ (a + tl) 0 to L _ i (S.pass hb g1 g2) ?_ (by (try dsimp only); omega)
  have : j = r9 := by omega
  subst this
  exact .inl ⟨hj, rfl, rfl, by omega, rfl⟩
 | succ r ih =>
  intro a L j i h S hj hjr ha hsuf hn
  have hT : (l.drop a).map strip = T ++ ((List.replicate r T).flatten ++ U) := by rw [hsuf, List.replicate_succ, List.flatten_cons, List.append_assoc]
  have hs2 := suf hT rfl
  have hm : a9 + T.length * (j + 1) = a9 + T.length * j + T.length := by rw [Nat.mul_succ]; omega
  rcases S.s with ⟨rfl, hts⟩ | ⟨v, rfl, hne, hti, hip, hiq, hi0, hin⟩
  · refine hN a h S.ro S.f S.g S.lp S.lq S.gq ⟨_, hT⟩ ?_
    intro z n' ty b hb g1 g2 g3
    have hj0 : j = 0 := by simpa using hts
    subst hj0
    exact ih (a + T.length) _ 1 z _ (S.nil (x := x) hb g1 g2 g3) (by omega) (by omega) (by omega) hs2 (by (try dsimp only); omega)
  · rcases Nat.lt_or_ge j 30 with hlt | hge
    · refine hO a h i v _ S.ro S.f S.g S.lp S.lq (by simpa using hlt) hti hip hiq hin S.gq ⟨_, hT⟩ ?_
      intro n' ty b hb g1 g3
      have S2 := S.own (x := x) (e' := 0) (to' := to) hti hip hiq hi0 hin hb g1 g3
      rw [show List.replicate j x ++ [x] = List.replicate (j + 1) x from by rw [List.replicate_succ', ]] at S2
      rw [show List.replicate j x ++ [x] = List.replicate (j + 1) x from by rw [List.replicate_succ', ]]
      exact ih (a + T.length) _ (j + 1) i _ S2 (by omega) (by omega) (by omega) hs2 (by (try dsimp only); omega)
    · have hj3 : j = 30 := by omega
      refine hX a h i v _ S.ro S.f S.g S.lp S.lq (by simpa using hj3) hti hip hiq hin S.gq ⟨_, hT⟩ ?_
      intro n' ty b to' hb g1 g3
      refine hF _ (a + cX) 3 to' _ _ i (S.own (x := x) hti hip hiq hi0 hin hb g1 g3) (.inr ⟨by omega, rfl, by simp; omega⟩) (by (try dsimp only); omega)
end Go.Proofs.YtjecpdnjpggcoaaGreatDoor.IrM
