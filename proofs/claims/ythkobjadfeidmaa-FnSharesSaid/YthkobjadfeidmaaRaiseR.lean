/- RaiseTariff's contracts in the form in which the law's walk takes them. -/
import Derived.Test.YthkobjadfeidmaaRaise2
namespace Go.Proofs.Ythkobjadfeidmaa
open Go.RowKit
def rOk (L : List TierD) (me mi mo p : Int) : Bool := tarOk L me mi mo && inB p 0 100
def rL (L : List TierD) (me mi mo p : Int) : List TierD := if rOk L me mi mo p then raiseL L p else []
def rN (b : Bool) (x : Int) : Int := if b then x else 0
def rCode (L : List TierD) (me mi mo p : Int) : Int := if rOk L me mi mo p then 0 else if tarOk L me mi mo then 2 else 1
theorem rL_len (L : List TierD) (me mi mo p : Int) : (rL L me mi mo p).length ≤ L.length := by
  unfold rL; split
  · rw [raise_len]; exact Nat.le_refl _
  · simp
def RaiseR (L : List TierD) (me mi mo p : Int) (w : World) (e : Ending) (w' : World) : Prop :=
  ∃ A' c', e = .returned (.tuple #[.agg #[.slice A' (rL L me mi mo p).length c', .int .i64 (rN (rOk L me mi mo p) (raiseC me p 10000)), .int .i64 (rN (rOk L me mi mo p) (raiseC mi p 10000)), .int .i64 (rN (rOk L me mi mo p) (raiseC mo p 100000))], .int .i64 (rCode L me mi mo p)]) ∧
    w'.ownsRow w.heap.size 63 2 (.slice A' (rL L me mi mo p).length c') (rL L me mi mo p).length ((rL L me mi mo p).flatMap tierC) ∧ Below w.heap.size w w' ∧ (rL L me mi mo p).length ≤ c' ∧ c' ≤ maxLen
theorem raiseR_of {L : List TierD} {me mi mo p : Int} {w w' : World} {e : Ending} (h : RaiseP L me mi mo p w e w') : RaiseR L me mi mo p w e w' := by
  unfold RaiseP at h
  split at h
  · rename_i hk
    obtain ⟨A', c', rfl, ho, hb⟩ := h
    have h1 : rOk L me mi mo p = true := by simp [rOk, hk]
    have h2 : rL L me mi mo p = raiseL L p := by simp [rL, h1]
    have h3 : rCode L me mi mo p = 0 := by simp [rCode, h1]
    have hc := own_cap ho
    refine ⟨A', c', ?_, ?_, hb, ?_, hc.2⟩
    · rw [h1, h2, h3, raise_len]; rfl
    · rw [h2, raise_len]; exact ho
    · rw [h2, raise_len]; exact hc.1
  · rename_i hk
    obtain ⟨rfl, hb⟩ := h
    have h1 : rOk L me mi mo p = false := by
      cases h : rOk L me mi mo p
      · rfl
      · rw [rOk, Bool.and_eq_true] at h; exact absurd h hk
    have h2 : rL L me mi mo p = [] := by simp [rL, h1]
    have h3 : rCode L me mi mo p = if tarOk L me mi mo = true then 2 else 1 := by simp [rCode, h1]
    refine ⟨none, 0, ?_, ?_, hb, ?_, ?_⟩
    · rw [h1, h2, h3]; rfl
    · rw [h2]; exact World.ownsRow_nil _ _ _ _
    · rw [h2]; exact Nat.le_refl _
    · exact Nat.zero_le _
theorem spec_RaiseR (A : Option Addr) (c : Nat) (L : List TierD) (me mi mo : Int) (p : Int) (w : World) (hr : Rd w w.heap.size A (L.length * 2) (L.flatMap tierC)) (hl : L.length ≤ 140737488355328) : Calls Try.prog 14 #[.agg #[.slice A L.length c, .int .i64 me, .int .i64 mi, .int .i64 mo], .int .i64 p] w (RaiseR L me mi mo p w) := (spec_RaiseTariff A c L me mi mo p w hr hl).mono fun _ _ h => raiseR_of h
theorem impl_RaiseR (A : Option Addr) (c : Nat) (L : List TierD) (me mi mo : Int) (p : Int) (w : World) (hr : Rd w w.heap.size A (L.length * 2) (L.flatMap tierC)) (hl : L.length ≤ 140737488355328) : Calls Try.prog 16 #[.agg #[.slice A L.length c, .int .i64 me, .int .i64 mi, .int .i64 mo], .int .i64 p] w (RaiseR L me mi mo p w) := (impl_RaiseTariff A c L me mi mo p w hr hl).mono fun _ _ h => raiseR_of h
end Go.Proofs.Ythkobjadfeidmaa
