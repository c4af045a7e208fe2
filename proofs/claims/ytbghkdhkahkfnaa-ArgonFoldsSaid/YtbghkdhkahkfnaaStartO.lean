/-
  Argon's beginning by the program, told in one. Contracts alone; no statement is claimed here.
-/
import Derived.Test.YtbghkdhkahkfnaaStartA
namespace Go.Proofs.Ytbghkdhkahkfnaa
open Go.RowKit

def startO (a : Ar) (pass salt secret extra : List UInt8) : List UInt8 := if startE a pass.length salt.length secret.length extra.length = 0 then plainL 64 (startL a pass salt secret extra) else []
theorem aStartS_any (a : Ar) (Ap As Ax Ae : Option Addr) (np cp ns cs nx cx ne ce : Nat) (pass salt secret extra : List UInt8) (w : World)
  (lp : pass.length = np) (ls : salt.length = ns) (lx : secret.length = nx) (le_ : extra.length = ne) (rp : RS cB w w.heap.size Ap pass) (rs : RS cB w w.heap.size As salt) (rx : RS cB w w.heap.size Ax secret) (re : RS cB w w.heap.size Ae extra) :
  Calls Try.prog 6 #[a.v, .slice Ap np cp, .slice As ns cs, .slice Ax nx cx, .slice Ae ne ce] w fun e w' => ∃ A' n c' cc, e = .returned (.tuple #[.slice A' n cc, .int .i64 (startE a pass.length salt.length secret.length extra.length)]) ∧ (startO a pass salt secret extra).length = n ∧ OS cB w' w.heap.size A' c' (startO a pass salt secret extra) ∧ Below w.heap.size w w' := by
 unfold startO
 rw [lp, ls, lx, le_]
 by_cases h : startE a np ns nx ne = 0
 ·rw [if_pos h, h]
  exact (aStart_any a Ap As Ax Ae np cp ns cs nx cx ne ce pass salt secret extra w h lp ls lx le_ rp rs rx re).mono fun _ _ ⟨A', c', h1, h2, h3⟩ => ⟨A', 64, c', 64, h1, plainL_len _ _ (Nat.le_refl _), h2, h3⟩
 ·rw [if_neg h]
  exact (startNo_any a Ap As Ax Ae np cp ns cs nx cx ne ce w h).mono fun _ _ ⟨h1, h3⟩ => ⟨none, 0, 0, 0, h1, rfl, OS.nil _ _ _ rfl, h3⟩
end Go.Proofs.Ytbghkdhkahkfnaa
