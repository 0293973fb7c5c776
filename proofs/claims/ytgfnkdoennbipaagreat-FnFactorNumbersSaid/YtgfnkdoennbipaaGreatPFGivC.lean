/- The contract of special, which takes a test of two words: the factors of a length for which two factors or more of one letter more are as told. -/
import Derived.Test.YtgfnkdoennbipaaGreatPFGivB
import Derived.Test.YtgfnkdoennbipaaGreatPFx4
namespace Go.Proofs.YtgfnkdoennbipaaGreat.PF
open Go.RowKit Go.Proofs.YtgfnkdoennbipaaGreatW.PrintWords Go.Proofs.YtgfnkdoennbipaaGreatW.PrintLast Go.Proofs.YtgfnkdoennbipaaGreatW.PrintMore
set_option linter.unusedVariables false
set_option linter.unusedSimpArgs false
set_option linter.unnecessarySimpa false

theorem size_alloc (w : World) (o : Obj) : (w.alloc o).heap.size = w.heap.size + 1 := by simp only [World.alloc, Array.size_push]

/-- What is asked of a function value that is told two words. -/
def PredAll2 (p : ByteArray → ByteArray → Option Bool) (n : Nat) (lb : Array Value) : Prop :=
 ∀ (x y : ByteArray) (W : World), True → ∀ r, p x y = some r → Calls Tryz.prog n (#[.string x, .string y] ++ lb) W fun e W' => e = .returned (.bool r) ∧ Below W.heap.size W W'

/-- How many elements are as told. -/
def cntP {α : Type} (p : α → Option Bool) : List α → Option Nat
 | [] => some 0
 | x :: l => (p x).bind fun b => (cntP p l).bind fun c => some (if b = true then c + 1 else c)

theorem cntP_mono {α : Type} {p p' : α → Option Bool} (h : ∀ x, LeO (p x) (p' x)) : ∀ l, LeO (cntP p l) (cntP p' l)
 | [] => LeO.refl _
 | x :: l => LeO.bind (h x) fun b => LeO.bind (cntP_mono h l) fun r => LeO.refl _

theorem cntP_cons {α : Type} {p : α → Option Bool} {x : α} {l : List α} {r : Nat} (h : cntP p (x :: l) = some r) : ∃ b r', p x = some b ∧ cntP p l = some r' ∧ r = if b = true then r' + 1 else r' := by
 simp only [cntP] at h
 obtain ⟨b, hb, h⟩ := Option.bind_eq_some_iff.mp h
 obtain ⟨r', hr', h⟩ := Option.bind_eq_some_iff.mp h
 exact ⟨b, r', hb, hr', (Option.some.inj h).symm⟩

theorem cntP_le {α : Type} {p : α → Option Bool} : ∀ {l : List α} {r : Nat}, cntP p l = some r → r ≤ l.length
 | [], r, h => by simp [cntP] at h; omega
 | x :: l, r, h => by
  obtain ⟨b, r', _, hr', rfl⟩ := cntP_cons h
  have := cntP_le hr'
  simp only [List.length_cons]; split <;> omega

/-- Is the number of longer factors that are as told for u less than two? -/
def lessTwo (p : ByteArray → ByteArray → Option Bool) (longer : List ByteArray) (u : ByteArray) : Option Bool := (cntP (fun v => p v u) longer).bind fun c => some (decide (c < 2))

set_option maxHeartbeats 4000000 in
theorem special1 (p : ByteArray → ByteArray → Option Bool) (n : Nat) (lb : Array Value) (l : List ByteArray) (A : Option Addr) (c g1 g2 T1 T2 : Nat) (u : ByteArray) (r : Bool) (w : World)
  (eg : ∀ args w, (callFunc n args).run Tryz.prog w = .ok (.enter n args) w) (hF : PredAll2 p n lb) (hb1 : w.heap[g1]? = some (.cells #[.slice A l.length c] T1 (0, 0))) (hb2 : w.heap[g2]? = some (.cells #[.func (.func n) #[] lb] T2 (0, 0)))
  (hr : Kd.C Kd.string w A l.length l) (hc : l.length ≤ c) (h : lessTwo p l u = some r) :
  Calls Tryz.prog 71 #[.string u, .pointer (some ⟨g1, 0, none⟩), .pointer (some ⟨g2, 0, none⟩)] w fun e w' => e = .returned (.bool r) ∧ Below w.heap.size w w' := by
 obtain ⟨tot, htot, h⟩ := Option.bind_eq_some_iff.mp h
 obtain rfl := Option.some.inj h
 clear h
 have htl := cntP_le htot
 have hlen := hr.2.1
 have hc1 := blk_cell1 hb1
 have hc2 := blk_cell1 hb2
 have HB2 := Aside0.mk hb2
 have HR := Aside0.mk hr
 have HF := Aside0.mk hF
 have HT := Aside0.mk htot
 clear hb1 hb2 hr hF htot
 go_enter Tryz.func71, Tryz.ntmps71
 go_wp2
 clear hc1 hc2
 go_loopg [5, 7, 10] l.length (fun gg v5 _ v10 wr => ∃ (kk many rest : Nat), v5 = .int .i64 many ∧ v10 = .int .i64 kk ∧ kk ≤ l.length ∧ many ≤ kk ∧ l.length - kk ≤ gg ∧ Aside0 (cntP (fun v => p v u) (l.drop kk) = some rest) ∧ Aside0 (tot = many + rest) ∧ Aside0 (Below w.heap.size w wr))
 case atStart => exact ⟨0, 0, tot, rfl, rfl, by omega, by omega, by omega, ⟨HT.out⟩, ⟨by omega⟩, ⟨Below.refl _ _⟩⟩
 case round =>
  clear HT
  obtain ⟨kk, many, rest, rfl, rfl, hkk, hmany, hgg, HA, HM, HB⟩ := hrel
  by_cases hlt : kk < l.length
  ·
   have hltz : (kk : Int) < (l.length : Int) := by omega
   obtain ⟨ad, e1, hx⟩ := Kd.at_string (Kd.C_below HR.out HB.out) (kk : Int) (by omega) hltz
   cases e1
   have hd := HA.out
   rw [rdOf_drop ByteArray.empty l kk hlt] at hd
   obtain ⟨b, rest', hb, hrest', hre⟩ := cntP_cons hd
   have hcall := Aside0.mk (HF.out _ u wr trivial b hb)
   have hx2 := blk_cell1 (blk_below HB2.out HB.out)
   clear hb hd
   generalize rdOf ByteArray.empty l (kk : Int) = y at hx hcall
   simp only [Int.toNat_natCast] at hx
   have HRE := Aside0.mk hre
   have HR' := Aside0.mk hrest'
   clear hre hrest' HA
   cases b with
   | true =>
    go_wp2_with (go_at_fn n; (with_reducible refine hcall.out.mono ?_); rintro e w' ⟨rfl, hb'⟩)
    go_roundg (l.length - (kk + 1))
    case measure => omega
    case rel => exact ⟨kk + 1, many + 1, rest', by go_num, by go_num, by omega, by omega, by omega, HR', ⟨by have := HM.out; have h2 := HRE.out; simp only [if_true] at h2; omega⟩, ⟨HB.out.trans (hb'.mono HB.out.size)⟩⟩
   | false =>
    go_wp2_with (go_at_fn n; (with_reducible refine hcall.out.mono ?_); rintro e w' ⟨rfl, hb'⟩)
    go_roundg (l.length - (kk + 1))
    case measure => omega
    case rel => exact ⟨kk + 1, many, rest', by go_num, by go_num, by omega, by omega, by omega, HR', ⟨by have := HM.out; have h2 := HRE.out; simp only [Bool.false_eq_true, if_false] at h2; omega⟩, ⟨HB.out.trans (hb'.mono HB.out.size)⟩⟩
  ·
   have hltz : ¬ (kk : Int) < (l.length : Int) := by omega
   have hrest : rest = 0 := by have := HA.out; rw [List.drop_eq_nil_of_le (by omega)] at this; simpa [cntP] using this.symm
   have htm : tot = many := by have := HM.out; omega
   subst htm
   clear HM hrest HA
   go_wp2
   go_ret
   exact ⟨by simp; omega, HB.out⟩

def impl_special.f (k : Nat) (a0 : ByteArray) (a1 : Int) (p : ByteArray → ByteArray → Option Bool) : Option (List ByteArray) :=
 (impl_factors.f k a0 (wrap64 (a1 + 1))).bind fun longer => (impl_factors.f k a0 a1).bind fun l => filterP (lessTwo p longer) l

theorem impl_special.monoP {k : Nat} {a0 : ByteArray} {a1 : Int} {p p' : ByteArray → ByteArray → Option Bool} (h : ∀ x y, LeO (p x y) (p' x y)) : LeO (impl_special.f k a0 a1 p) (impl_special.f (k + 1) a0 a1 p') :=
 LeO.bind (impl_factors.mono _ _ _) fun longer => LeO.bind (impl_factors.mono _ _ _) fun l => filterP_mono (fun u => LeO.bind (cntP_mono (fun v => h v u) longer) fun _ => LeO.refl _) l

set_option maxHeartbeats 4000000 in
theorem impl_special.calls (k : Nat) (a0 : ByteArray) (a1 : Int) (p : ByteArray → ByteArray → Option Bool) (n : Nat) (lb : Array Value) (r : List ByteArray) (w : World)
  (hF0 : (∀ args w, (callFunc n args).run Tryz.prog w = .ok (.enter n args) w) ∧ PredAll2 p n lb) (h : impl_special.f k a0 a1 p = some r) :
  Calls Tryz.prog 38 #[.string a0, .int .i64 a1, .func (.func n) #[] lb] w fun e w' => ∃ v0_ : Value, e = .returned (v0_) ∧ Kd.R Kd.string 9 w' w.heap.size (fun _ => True) v0_ r ∧ Below w.heap.size w w' := by
 obtain ⟨longer, hl1, h⟩ := Option.bind_eq_some_iff.mp h
 obtain ⟨l, hl2, h⟩ := Option.bind_eq_some_iff.mp h
 have HP := Aside0.mk hF0
 have H1 := Aside0.mk hl1
 have H2 := Aside0.mk hl2
 have H3 := Aside0.mk h
 have e1 : Aside0 (∀ args w, (callFunc 71 args).run Tryz.prog w = .ok (.enter 71 args) w) := ⟨Go.Proofs.enters_of Tryz.func71 (by kernel_rfl) rfl⟩
 clear hF0 hl1 hl2 h
 go_enter Tryz.func38, Tryz.ntmps38
 go_wp2_with fail
 refine (impl_factors.calls k a0 (wrap64 (a1 + 1)) longer _ H1.out).mono ?_
 rintro e w1 ⟨v1, rfl, ho1, hb1⟩
 obtain ⟨A1, c1, rfl⟩ := Kd.R_slice ho1
 have HO1 := Aside0.mk ho1
 have HB1 := Aside0.mk hb1
 clear ho1 hb1
 go_wp2_with fail
 refine (impl_factors.calls k a0 a1 l _ H2.out).mono ?_
 rintro e w2 ⟨v2, rfl, ho2, hb2⟩
 have hB1 : Below w.heap.size w w1 := below_step (below_alloc (Below.refl _ _) _) HB1.out
 have hB2 : Below w.heap.size w w2 := below_step (below_alloc hB1 _) hb2
 have hlt0 : w.heap.size < w1.heap.size := by have := HB1.out.size; simp only [size_alloc] at this; omega
 have hbase2 := Kd.R_base ho2
 rw [size_alloc] at hbase2
 have hpred : PredK Value.string (lessTwo p longer) 71 #[.pointer (some ⟨w1.heap.size, 0, none⟩), .pointer (some ⟨w.heap.size, 0, none⟩)] w2 (fun k_ => some k_ = v2.ownBlock) := by
  intro u W hk r' hr'
  have hn1 : ¬ (some w1.heap.size = v2.ownBlock) := fun e => by have := hbase2 _ e.symm; omega
  have hn2 : ¬ (some w.heap.size = v2.ownBlock) := fun e => by have := hbase2 _ e.symm; omega
  have hR1 := Kd.R_old (Kd.R_alloc HO1.out (.cells #[.slice A1 longer.length c1] 26 (0, 0))) hb2
  exact special1 p n lb longer A1 c1 w1.heap.size w.heap.size _ _ u r' W HP.out.1 HP.out.2 (blk_kept (blk_below (blk_new _ _) hb2) hk hn1)
   (blk_kept (blk_below (blk_alloc (blk_below (blk_new _ _) HB1.out) _) hb2) hk hn2)
   (Kd.C_kept_own hR1 (fun k hk hs => by have := hbase2 _ hs.symm; have := hk.2; rw [size_alloc] at this; omega) W hk) (Kd.R_reads' HO1.out).2.1 hr'
 have hcall := Aside0.mk (slices_DeleteFunc_string_string.calls k (fun k_ => some k_ = v2.ownBlock) v2 l (lessTwo p longer) 71 #[.pointer (some ⟨w1.heap.size, 0, none⟩), .pointer (some ⟨w.heap.size, 0, none⟩)] r w w2 hB2 (Kd.R_lower (Kd.R_tight rfl ho2) (by rw [size_alloc]; omega)) ⟨e1.out, hpred⟩ H3.out)
 clear hpred hbase2 hB1 hB2 hlt0 hb2 ho2 HO1 HB1
 go_wp2_with (go_at_call 30; (with_reducible refine hcall.out.mono ?_); rintro e w3 ⟨v3, rfl, ho3, hb3, _⟩)
 go_ret
 exact ⟨_, rfl, Kd.R_mono ho3 (fun _ _ => trivial), hb3⟩

end Go.Proofs.YtgfnkdoennbipaaGreat.PF
