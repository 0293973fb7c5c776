/- Given for the print: has a word all of some words, by hand. -/
import Derived.Test.YtfehmbifcoajeaaGreatPFGivX
namespace Go.Proofs.YtfehmbifcoajeaaGreat.PF
open Go.RowKit Go.Proofs.YtfehmbifcoajeaaGreatW.PrintWords Go.Proofs.YtfehmbifcoajeaaGreatW.PrintLast Go.Proofs.YtfehmbifcoajeaaGreatW.PrintMore
set_option linter.unusedVariables false
set_option linter.unusedSimpArgs false

set_option maxHeartbeats 2000000 in
theorem hasAll1 (wd : ByteArray) (g T : Nat) (w0 : World) (hM : MaxOk w0) (hg : w0.heap[g]? = some (.cells #[.string wd] T (0, 0))) : PredIn Value.string (fun x => strings_Contains.f wd x) 70 #[.pointer (some ⟨g, 0, none⟩)] w0 := by
 intro x W hb r h
 have hx := blk_cell1 (blk_below hg hb)
 have hcall := Aside0.mk (strings_Contains.calls wd x r W (hM.below hb) h)
 clear hM hg hb h
 show Calls Tryz.prog 70 #[.string x, .pointer (some ⟨g, 0, none⟩)] W _
 go_enter Tryz.func70, Tryz.ntmps70
 go_wp2_with (go_at_call 53; (with_reducible refine hcall.out.mono ?_); rintro e w' ⟨rfl, hb'⟩)
 go_ret
 exact ⟨rfl, hb'⟩

def impl_hasAll.f (k : Nat) (a0 : ByteArray) (l1 : List ByteArray) : Option Bool := allP (fun x => strings_Contains.f a0 x) l1
theorem impl_hasAll.mono : ∀ a0 l1 k, LeO (impl_hasAll.f k a0 l1) (impl_hasAll.f (k + 1) a0 l1) := fun _ _ _ => LeO.refl _

set_option maxHeartbeats 2000000 in
theorem impl_hasAll.calls (k : Nat) (a0 : ByteArray) (A1 : Option Addr) (c1 : Nat) (l1 : List ByteArray) (r : Bool) (w : World) (hMax : MaxOk w) (hr1 : Kd.C Kd.string w A1 l1.length l1) (hc1 : l1.length ≤ c1) (h : impl_hasAll.f k a0 l1 = some r) :
  Calls Tryz.prog 42 #[.string a0, .slice A1 l1.length c1] w fun e w' => e = .returned (.bool r) ∧ Below w.heap.size w w' := by
 have hlen := hr1.2.1
 have e1 : ∀ args w, (callFunc 70 args).run Tryz.prog w = .ok (.enter 70 args) w := Go.Proofs.enters_of Tryz.func70 (by kernel_rfl) rfl
 have hcall := Aside0.mk (fun (W : World) (g : Nat) (hb : Below w.heap.size w W) (hg : W.heap[g]? = some (.cells #[.string a0] 9 (0, 0))) =>
  impl_areAll_string.calls 0 A1 c1 l1 (fun x => strings_Contains.f a0 x) 70 #[.pointer (some ⟨g, 0, none⟩)] r W (Kd.C_below hr1 hb) hc1 ⟨e1, hasAll1 a0 g 9 W (hMax.below hb) hg⟩ h)
 clear hr1 hMax h e1
 go_enter Tryz.func42, Tryz.ntmps42
 go_wp2_with (go_at_call 40; (with_reducible refine (hcall.out _ w.heap.size (by exact below_alloc (Below.refl _ _) _) (by exact blk_new _ _)).mono ?_); rintro e w' ⟨rfl, hb'⟩)
 go_ret
 exact ⟨rfl, below_step (below_alloc (Below.refl _ _) _) hb'⟩

end Go.Proofs.YtfehmbifcoajeaaGreat.PF
