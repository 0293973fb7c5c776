/- Given for the print: the code of a word and its covers, by hand. -/
import Derived.Test.YtcfphjjdbccnoaaGreatPFGivA
import Derived.Test.YtcfphjjdbccnoaaGreatPFx2
namespace Go.Proofs.YtcfphjjdbccnoaaGreat.PF
open Go.RowKit Go.Proofs.YtcfphjjdbccnoaaGreatW.PrintWords Go.Proofs.YtcfphjjdbccnoaaGreatW.PrintLast Go.Proofs.YtcfphjjdbccnoaaGreatW.PrintMore
set_option linter.unusedVariables false
set_option linter.unusedSimpArgs false

/-- No word of the list is empty. -/
def filled (l : List ByteArray) : Bool := l.all fun u => u.toList != ([] : List UInt8)

set_option maxHeartbeats 4000000 in
theorem coverCode1 (b : Bool) (l : List ByteArray) (A : Option Addr) (c g1 g2 T1 T2 : Nat) (w : World)
  (hb1 : w.heap[g1]? = some (.cells #[.bool b] T1 (0, 0))) (hb2 : w.heap[g2]? = some (.cells #[.slice A l.length c] T2 (0, 0)))
  (hr : Kd.C Kd.string w A l.length l) (hc : l.length ≤ c) :
  Calls Tryz.prog 66 #[.pointer (some ⟨g1, 0, none⟩), .pointer (some ⟨g2, 0, none⟩)] w fun e w' => e = .returned (.bool (b && filled l)) ∧ Below w.heap.size w w' := by
 have hlen := hr.2.1
 have hc1 := blk_cell1 hb1
 have hc2 := blk_cell1 hb2
 have e1 : ∀ args w, (callFunc 67 args).run Tryz.prog w = .ok (.enter 67 args) w := Go.Proofs.enters_of Tryz.func67 (by kernel_rfl) rfl
 have hp : PredIn Value.string impl_coverCode_1_1.f 67 #[] w := fun x W _ r h => (impl_coverCode_1_1.calls x r W h).mono fun e w' ⟨he, hd⟩ => ⟨he, hd.below⟩
 have hall : impl_areAll_string.f 0 impl_coverCode_1_1.f l = some (filled l) := allP_some (fun u : ByteArray => u.toList != ([] : List UInt8)) l
 have hcall := Aside0.mk (impl_areAll_string.calls 0 A c l impl_coverCode_1_1.f 67 #[] (filled l) w hr hc ⟨e1, hp⟩ hall)
 clear hb1 hb2 hr e1 hp hall
 cases b with
 | true =>
  simp only [Bool.true_and]
  go_enter Tryz.func66, Tryz.ntmps66
  go_wp2_with (go_at_call 62; (with_reducible refine hcall.out.mono ?_); rintro e w' ⟨rfl, hb'⟩)
  go_ret
  exact ⟨rfl, hb'⟩
 | false =>
  simp only [Bool.false_and]
  go_enter Tryz.func66, Tryz.ntmps66
  go_wp2
  go_ret
  exact ⟨rfl, Below.refl _ _⟩

def impl_coverCode.f (k : Nat) (b : Bool) (a1 : ByteArray) (l2 : List ByteArray) : Option Int :=
 if l2.length ≤ 1000000000000 then impl_wordCode.f k (some (b && filled l2)) (a1 :: l2) else none
theorem impl_coverCode.mono : ∀ b a1 l2 k, LeO (impl_coverCode.f k b a1 l2) (impl_coverCode.f (k + 1) b a1 l2) := fun b a1 l2 k => LeO.ite (LeO.refl _) (LeO.refl _)

theorem size_alloc' (w : World) (o : Obj) : (w.alloc o).heap.size = w.heap.size + 1 := by simp only [World.alloc, Array.size_push]
theorem infoStr : (Tryz.prog.info? 9).map (fun i => (i.zero, i.size, i.bytes)) = some (some (.string ⟨#[]⟩), 1, 16) := by kernel_rfl

theorem coverCode_thunk (b : Bool) (l2 : List ByteArray) (A2 : Option Addr) (c2 : Nat) (w W0 w11 : World) (hB0 : Below w.heap.size w W0) (h1 : W0.heap[w.heap.size]? = some (.cells #[.bool b] 4 (0, 0)))
  (h2 : W0.heap[w.heap.size + 1]? = some (.cells #[.slice A2 l2.length c2] 29 (0, 0))) (hr : Kd.C Kd.string w A2 l2.length l2) (hc : l2.length ≤ c2) (hB : Below W0.heap.size W0 w11) :
  ThunkIn (some (b && filled l2)) 66 #[.pointer (some ⟨w.heap.size, 0, none⟩), .pointer (some ⟨w.heap.size + 1, 0, none⟩)] w11 := by
 intro W hb r' hr'
 obtain rfl := Option.some.inj hr'
 have hbk : Below W0.heap.size W0 W := below_step hB hb
 exact coverCode1 b l2 A2 c2 w.heap.size (w.heap.size + 1) _ _ W (blk_below h1 hbk) (blk_below h2 hbk) (Kd.C_below hr (below_step hB0 hbk)) hc

set_option maxHeartbeats 4000000 in
theorem impl_coverCode.calls (k : Nat) (b : Bool) (a1 : ByteArray) (A2 : Option Addr) (c2 : Nat) (l2 : List ByteArray) (r : Int) (w : World) (hr2 : Kd.C Kd.string w A2 l2.length l2) (hc2 : l2.length ≤ c2) (h : impl_coverCode.f k b a1 l2 = some r) :
  Calls Tryz.prog 35 #[.bool b, .string a1, .slice A2 l2.length c2] w fun e w' => e = .returned (.int .i64 r) ∧ Below w.heap.size w w' := by
 unfold impl_coverCode.f at h
 by_cases hs : l2.length ≤ 1000000000000
 case neg => rw [if_neg hs] at h; cases h
 rw [if_pos hs] at h
 have hlen := hr2.2.1
 have HR := Aside0.mk hr2
 have H := Aside0.mk h
 have e1 : Aside0 (∀ args w, (callFunc 66 args).run Tryz.prog w = .ok (.enter 66 args) w) := ⟨Go.Proofs.enters_of Tryz.func66 (by kernel_rfl) rfl⟩
 clear hr2 h
 go_enter Tryz.func35, Tryz.ntmps35
 obtain ⟨W0, hW0⟩ : ∃ W, W = (w.alloc (Obj.cells #[Value.bool b] 4)).alloc (Obj.cells #[Value.slice A2 l2.length c2] 29) := ⟨_, rfl⟩
 have hz0 : W0.heap.size = w.heap.size + 1 + 1 := by rw [hW0, size_alloc', size_alloc']
 have hbk1 : W0.heap[w.heap.size]? = some (.cells #[.bool b] 4 (0, 0)) := by rw [hW0]; exact blk_alloc (blk_new _ _) _
 have hbk2 : W0.heap[w.heap.size + 1]? = some (.cells #[.slice A2 l2.length c2] 29 (0, 0)) := by rw [hW0]; have h := blk_new (w.alloc (Obj.cells #[Value.bool b] 4)) (Obj.cells #[Value.slice A2 l2.length c2] 29); rw [size_alloc'] at h; exact h
 have hB0 : Below w.heap.size w W0 := by rw [hW0]; exact below_alloc (below_alloc (Below.refl _ _) _) _
 have HW := Aside0.mk hW0
 have HZ := Aside0.mk hz0
 have HK1 := Aside0.mk hbk1
 have HK2 := Aside0.mk hbk2
 have HB0 := Aside0.mk hB0
 clear hW0 hz0 hbk1 hbk2 hB0
 go_wp2_with (first
  | ((with_reducible refine gate_dst (N := 9) rfl ?_); refine Kd.R_lit Kd.string _ 9 ?hg (N := 9) ?hd (xs := ([a1] : List ByteArray)) (inner := [.string a1]) (ok := fun _ => True) (okp := fun _ => True) ?hr ?hp (fun _ hk => hk) trivial (Below.refl _ _) (Nat.le_refl _) (by simp) ?_; (case hd => rfl); (case hg => rfl); (case hr => first | (go_simp; done) | (go_simp; rfl)); (case hp => exact Reps.one (show Kd.M Kd.string _ _ _ a1 [.string a1] from rfl) (Reps.none _ _)); intro v9 w9 ho9 hb9 hg_ hnew_; clear hg_ hnew_; rw [← HW.out] at ho9 hb9; have HO9 := Aside0.mk ho9; have HB9 := Aside0.mk hb9; clear ho9 hb9; have hcell := blk_cell1 (blk_below HK2.out HB9.out))
  | ((with_reducible refine gate_builtin (b := .append) (xs := #[.tmp 9, .tmp 10]) rfl ?_); at_builtin; refine Kd.R_append_rows Kd.string (w0 := W0) W0.heap.size rfl (.tmp 9) (.tmp 10) 29 9 (.string ⟨#[]⟩) 16 rfl Tryz.underlying29 infoStr rfl (by decide) (by omega) v9 [a1] l2 _ _ _ (fun _ => True) (fun _ => False) rfl rfl HO9.out (Kd.C_below HR.out (below_step HB0.out HB9.out)) (fun _ _ h => h) (fun _ h => h.elim) (fun _ _ => trivial) HB9.out HB9.out.size (by simp; omega) ?_; intro v11 w11 ho11 hb11 hg_ hat_; clear hg_ hat_; obtain ⟨A11, c11, rfl⟩ := Kd.R_slice ho11; have HO11 := Aside0.mk ho11; have HB11 := Aside0.mk hb11; clear ho11 hb11 HO9 HB9 hcell)
  | (go_at_call 30; (refine (impl_wordCode.calls k (some (b && filled l2)) 66 _ A11 c11 ([a1] ++ l2) r _ (Kd.R_reads' HO11.out).2.2 (Kd.R_reads' HO11.out).2.1 ⟨e1.out, coverCode_thunk b l2 A2 c2 w W0 w11 HB0.out HK1.out HK2.out HR.out hc2 HB11.out⟩ H.out).mono ?_); rintro e w12 ⟨rfl, hb12⟩; have HB12 := Aside0.mk (below_step (below_step HB0.out HB11.out) hb12); clear hb12))
 go_ret
 exact ⟨rfl, HB12.out⟩

end Go.Proofs.YtcfphjjdbccnoaaGreat.PF
