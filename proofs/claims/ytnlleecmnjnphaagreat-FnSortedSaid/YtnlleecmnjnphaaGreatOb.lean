/-
  From the claim form's reading to mine: bytes. Conditions: none.
-/
import Derived.Test.YtnlleecmnjnphaaGreatOpen
import Derived.Test.YtnlleecmnjnphaaGreatGd
namespace Go.E
open Go Go.RowKit
theorem opens_u8 {P : Program} {t : TypeId} (h : IntT P t .u8) : Opens P t u8R := by
  intro H enc W base spare held fuel cs x hx
  obtain ⟨n, rfl, _, _⟩ := DataW.trod_int h.u hx
  exact ⟨n, [], rfl, rfl⟩
end Go.E
