/- What a statement has. (Seat b has some of these in its Body.) -/
import Derived.Test.YtmpdmelkbemabaaGreatCls
set_option linter.unusedSimpArgs false
set_option linter.unusedVariables false
namespace Go.Proofs.Grow
open Go.RowKit
def St.k : St → Int | .mk k _ _ _ _ _ _ _ _ _ _ _ _ _ _ _ => k
def St.ty : St → Ty | .mk _ _ _ _ ty _ _ _ _ _ _ _ _ _ _ _ => ty
def St.bA : St → Option Addr | .mk _ _ _ _ _ _ _ _ _ bA _ _ _ _ _ _ => bA
def St.bc : St → Nat | .mk _ _ _ _ _ _ _ _ _ _ bc _ _ _ _ _ => bc
def St.body : St → List St | .mk _ _ _ _ _ _ _ _ _ _ _ body _ _ _ _ => body
def St.eA : St → Option Addr | .mk _ _ _ _ _ _ _ _ _ _ _ _ eA _ _ _ => eA
def St.ec : St → Nat | .mk _ _ _ _ _ _ _ _ _ _ _ _ _ ec _ _ => ec
def St.els : St → List St | .mk _ _ _ _ _ _ _ _ _ _ _ _ _ _ els _ => els
def St.pos : St → Int | .mk _ _ _ _ _ _ _ _ _ _ _ _ _ _ _ pos => pos
def Ty.zero : Ty := ⟨0, ByteArray.empty, 0, ⟨0, 0⟩, ⟨0, 0⟩, ⟨0, 0⟩, ⟨0, 0⟩⟩
def St.zero : St := .mk 0 ByteArray.empty ByteArray.empty ByteArray.empty Ty.zero (.mk 0 0 ByteArray.empty none 0 []) none 0 [] none 0 [] none 0 [] 0
theorem St.at4 (s : St) : s.cells[4]? = some (.int .i64 s.ty.k) := by cases s; rfl
theorem St.at20 (s : St) : s.cells[20]? = some (.slice s.bA s.body.length s.bc) := by obtain ⟨_, _, _, _, _, ⟨_, _, _, _, _, _⟩⟩ := s; rfl
theorem St.at21 (s : St) : s.cells[21]? = some (.slice s.eA s.els.length s.ec) := by obtain ⟨_, _, _, _, _, ⟨_, _, _, _, _, _⟩⟩ := s; rfl
theorem St.at22 (s : St) : s.cells[22]? = some (.int .i64 s.pos) := by obtain ⟨_, _, _, _, _, ⟨_, _, _, _, _, _⟩⟩ := s; rfl
theorem St.body_lt (s : St) {t : St} (h : t ∈ s.body) : SizeOf.sizeOf t < SizeOf.sizeOf s := by
  have := List.sizeOf_lt_of_mem h
  have h1 : SizeOf.sizeOf s.body < SizeOf.sizeOf s := by cases s; simp [St.body]; omega
  omega
theorem St.body_size (s : St) : SizeOf.sizeOf s.body < SizeOf.sizeOf s := by cases s; simp [St.body]; omega
theorem St.els_size (s : St) : SizeOf.sizeOf s.els < SizeOf.sizeOf s := by cases s; simp [St.els]; omega
end Go.Proofs.Grow
