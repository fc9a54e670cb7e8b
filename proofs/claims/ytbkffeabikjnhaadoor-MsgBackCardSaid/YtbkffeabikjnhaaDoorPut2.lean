/- A message as bytes, or that it may not be: the program's. -/
import Derived.Test.YtbkffeabikjnhaaDoorPut
namespace Go.Proofs.YtbkffeabikjnhaaDoor
open Go.RowKit

def Msg.putB (m : Msg) : ByteArray := if m.ok = true then ⟨(sealed m.bytes).toArray⟩ else ⟨#[]⟩
theorem ret_pe {a b : ByteArray} {c d : Int} (h1 : a = b) (h2 : c = d) : Ending.returned (.tuple #[.string a, .int .i64 c]) = .returned (.tuple #[.string b, .int .i64 d]) := by rw [h1, h2]
theorem msg_Put (m : Msg) (w : World) :
    Calls Tryd.prog 25 #[m.val] w fun e w' => e = .returned (.tuple #[.string m.putB, .int .i64 m.code]) ∧ Below w.heap.size w w' := by
  cases hok : m.ok
  · refine (msg_putNo m w hok).mono fun e w' ⟨he, hb⟩ => ⟨?_, hb⟩
    rw [he]; exact ret_pe (by simp [Msg.putB, hok]) (by simp [Msg.code, hok])
  · refine (msg_put m w hok).mono fun e w' ⟨he, hb⟩ => ⟨?_, hb⟩
    rw [he]; exact ret_pe (by simp [Msg.putB, hok]) (by simp [Msg.code, hok])
end Go.Proofs.YtbkffeabikjnhaaDoor
