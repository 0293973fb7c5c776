/- Given for the print: which places of a word are covered, by hand: a loop over words, over their places, over their letters (a range over a string). -/
import Derived.Test.YtcfphjjdbccnoaaGreatPFGivA
import Derived.Laws.RangeString
import Derived.Test.YtcfphjjdbccnoaaGreatPFx1
namespace Go.Proofs.YtcfphjjdbccnoaaGreat.PF
open Go.RowKit Go.Proofs.YtcfphjjdbccnoaaGreatW.PrintWords Go.Proofs.YtcfphjjdbccnoaaGreatW.PrintLast Go.Proofs.YtcfphjjdbccnoaaGreatW.PrintMore
set_option linter.unusedVariables false
set_option linter.unusedSimpArgs false

/-- Letters k, k + 1, .. of a word that lies at place p are marked. -/
def markAt (p : Int) : Nat → Nat → List Bool → Option (List Bool)
 | 0, _, out => some out
 | d + 1, k, out => if 0 ≤ wrap64 (p + (k : Int)) ∧ wrap64 (p + (k : Int)) < (out.length : Int) then markAt p d (k + 1) (out.set (wrap64 (p + (k : Int))).toNat true) else none
def markAll (n : Nat) : List Int → List Bool → Option (List Bool)
 | [], out => some out
 | p :: ps, out => (markAt p n 0 out).bind (markAll n ps)
def covAll (k : Nat) (w : ByteArray) : List ByteArray → List Bool → Option (List Bool)
 | [], out => some out
 | u :: us, out => if isW u = true then (impl_places.f k w u).bind fun ps => (markAll u.size ps out).bind (covAll k w us) else none
def impl_covered.f (k : Nat) (a0 : ByteArray) (l1 : List ByteArray) : Option (List Bool) :=
 if a0.size ≤ 281474976710656 then covAll k a0 l1 (List.replicate a0.size false) else none

theorem covAll_mono (k : Nat) (w : ByteArray) : ∀ l out, LeO (covAll k w l out) (covAll (k + 1) w l out)
 | [], out => LeO.refl _
 | u :: us, out => LeO.ite (LeO.bind (impl_places.mono _ _ _) fun ps => LeO.bind (LeO.refl _) fun o => covAll_mono k w us o) (LeO.refl _)
theorem impl_covered.mono : ∀ a0 l1 k, LeO (impl_covered.f k a0 l1) (impl_covered.f (k + 1) a0 l1) := fun a0 l1 k => LeO.ite (covAll_mono k a0 l1 _) (LeO.refl _)

theorem markAt_length (p : Int) : ∀ d k out r, markAt p d k out = some r → r.length = out.length
 | 0, k, out, r, h => by simp [markAt] at h; rw [h]
 | d + 1, k, out, r, h => by
  simp only [markAt] at h
  split at h
  ·
   rw [markAt_length p d (k + 1) _ r h, List.length_set]
  ·
   cases h

theorem infoBool : (Tryz.prog.info? 4).map (fun i => (i.zero, i.size, i.bytes)) = some (some (.bool false), 1, 1) := by kernel_rfl

theorem isW_ascii {u : ByteArray} (h : isW u = true) (t : Nat) (ht : t < u.size) : (u[t]'ht).toNat < 128 := by
 simp only [isW, Bool.and_eq_true, List.all_eq_true] at h
 have h2 := h.2 (bt u (t : Int)) (by rw [← rd_bytesOf, rd, Int.toNat_natCast, List.getD_eq_getElem?_getD, List.getElem?_eq_getElem (by rw [bytesOf_length]; exact ht)]; exact List.getElem_mem _)
 simp only [isLet, Bool.and_eq_true, decide_eq_true_eq, bt, Int.toNat_natCast, ht, dite_true] at h2
 omega

/-- One block written anew. -/
def adv (w : World) (b : Nat) (o : Obj) : World := { w with heap := w.heap.setIfInBounds b o }
theorem adv_far (w : World) (b : Nat) (o : Obj) (k : Nat) (h : k ≠ b) : (adv w b o).heap[k]? = w.heap[k]? := by
 simp only [adv, Array.getElem?_setIfInBounds]
 rw [if_neg (fun e => h e.symm)]
theorem adv_at (w : World) (b : Nat) (o : Obj) (h : b < w.heap.size) : (adv w b o).heap[b]? = some o := by
 simp [adv, Array.getElem?_setIfInBounds, h]
theorem adv_size (w : World) (b : Nat) (o : Obj) : (adv w b o).heap.size = w.heap.size := by simp [adv]
theorem adv_below {n : Nat} {w0 w : World} {b : Nat} (o : Obj) (h : Below n w0 w) (hb : n ≤ b) : Below n w0 (adv w b o) :=
 ⟨h.os, h.tape, h.output, by rw [adv_size]; exact h.size, fun k hk => (adv_far w b o k (by omega)).trans (h.block k hk)⟩
theorem next_more (w : World) (b : Nat) (s : ByteArray) (pos : Nat) (ty : TypeId) (hb : w.heap[b]? = some (.stringIter s pos)) (h : pos < s.size) (ha : (s[pos]'h).toNat < 128) :
  (Instr.next (.pointer (some ⟨b, 0, none⟩)) true ty).run Tryz.prog w = .ok (.tuple #[.bool true, .int .i64 pos, .int .i32 (s[pos]'h).toNat]) (adv w b (.stringIter s (pos + 1))) := by
 simp only [Instr.next, getObj, setObj, Sem.run_bind, Sem.run, hb, Result.andThen, h, if_true, decode_ascii s pos h ha]
 simp [goInt, Sem.run, hb, adv]
theorem next_none (w : World) (b : Nat) (s : ByteArray) (pos : Nat) (ty : TypeId) (hb : w.heap[b]? = some (.stringIter s pos)) (h : ¬ pos < s.size) :
  (Instr.next (.pointer (some ⟨b, 0, none⟩)) true ty).run Tryz.prog w = .ok (.tuple #[.bool false]) w := by
 simp [Instr.next, getObj, Sem.run, hb, h]

set_option maxHeartbeats 4000000 in
theorem impl_covered.calls (k : Nat) (a0 : ByteArray) (A1 : Option Addr) (c1 : Nat) (l1 : List ByteArray) (r : List Bool) (w : World) (hr1 : Kd.C Kd.string w A1 l1.length l1) (hc1 : l1.length ≤ c1) (h : impl_covered.f k a0 l1 = some r) :
  Calls Tryz.prog 41 #[.string a0, .slice A1 l1.length c1] w fun e w' => ∃ v0_ : Value, e = .returned (v0_) ∧ Kd.R Kd.bool 4 w' w.heap.size (fun _ => True) v0_ r ∧ Below w.heap.size w w' := by
 unfold impl_covered.f at h
 by_cases hs : a0.size ≤ 281474976710656
 case neg => rw [if_neg hs] at h; cases h
 rw [if_pos hs] at h
 have hlen := hr1.2.1
 have H := Aside0.mk h
 have HR1 := Aside0.mk hr1
 have HS := Aside0.mk hs
 clear h hr1 hs
 have hn0 : decide (0 ≤ (a0.size : Int)) = true := decide_eq_true (by omega)
 go_enter Tryz.func41, Tryz.ntmps41
 go_wp2_with (first | ((with_reducible refine gate_dst (N := 13) rfl ?_); refine Kd.R_make Kd.bool _ 4 rfl (N := 13) rfl 55 _ _ rfl (a0.size : Int) rfl rfl Tryz.underlying55 (.bool false) 1 infoBool rfl (by decide) (by omega) false (ok := fun _ => True) (okp := fun _ => True) rfl (fun _ hk => hk) trivial (by omega) (by have := HS.out; omega) (Below.refl _ _) (Nat.le_refl _) ?_; intro v4 w4 ho4 hb4 hg_ hnew_; clear hg_ hnew_))
 clear hn0
 obtain ⟨A, cap, rfl⟩ := Kd.R_slice ho4
 rw [List.length_replicate, Int.toNat_natCast] at ho4 ⊢
 have HO := Aside0.mk ho4
 have HB := Aside0.mk hb4
 clear ho4 hb4
 go_loopg [7, 9, 10, 16] l1.length (fun gg _ _ _ v16 wr => ∃ (i : Nat) (cur : List Bool), v16 = .int .i64 i ∧ i ≤ l1.length ∧ l1.length - i ≤ gg ∧ Aside0 (covAll k a0 (l1.drop i) cur = some r) ∧
  Aside0 (Kd.R Kd.bool 4 wr w.heap.size (fun _ => True) (.slice A a0.size cap) cur) ∧ Aside0 (Below w.heap.size w wr))
 case atStart => exact ⟨0, _, rfl, by omega, by omega, H, HO, HB⟩
 case round =>
  clear HO HB H
  obtain ⟨i, cur, rfl, hi, hgg, H, HO, HB⟩ := hrel
  by_cases hlt : i < l1.length
  ·
   have hltz : (i : Int) < (l1.length : Int) := by omega
   have hC' := Kd.C_below HR1.out HB.out
   obtain ⟨ad, e1, hx⟩ := Kd.at_string hC' (i : Int) (by omega) hltz
   clear hC'
   cases e1
   have h := H.out
   rw [rdOf_drop ByteArray.empty l1 i hlt] at h
   simp only [covAll] at h
   generalize rdOf ByteArray.empty l1 (i : Int) = u at hx h
   by_cases hu : isW u = true
   case neg => rw [if_neg hu] at h; cases h
   rw [if_pos hu] at h
   obtain ⟨ps, hps, h⟩ := Option.bind_eq_some_iff.mp h
   have HU := Aside0.mk hu
   have H2 := Aside0.mk h
   have hcall := Aside0.mk (impl_places.calls k a0 u ps wr hps)
   clear h hu hps H
   simp only [Int.toNat_natCast] at hx
   go_wp2_with (go_at_call 72; (with_reducible refine hcall.out.mono ?_); rintro e w2 ⟨v22, rfl, hps2, hb2⟩; obtain ⟨A2, c2, rfl⟩ := Kd.R_slice hps2; have HP := Aside0.mk hps2; have HB2 := Aside0.mk hb2; clear hps2 hb2)
   clear hx hcall
   obtain ⟨S1, hS1⟩ : ∃ n, n = wr.heap.size := ⟨_, rfl⟩
   obtain ⟨S2, hS2⟩ : ∃ n, n = w2.heap.size := ⟨_, rfl⟩
   have HP1 : Aside0 (Kd.R (Kd.int .i64) 2 w2 S1 (fun q => S1 ≤ q ∧ q < S2) (.slice A2 ps.length c2) ps) := ⟨by rw [hS1, hS2]; exact Kd.R_mono (Kd.R_bound HP.out) (fun q hq => ⟨hq.2.1, hq.2.2.1⟩)⟩
   have HO1 : Aside0 (Kd.R Kd.bool 4 w2 w.heap.size (fun q => q < S1) (.slice A a0.size cap) cur) := ⟨by rw [hS1]; exact Kd.R_below (Kd.R_mono (Kd.R_bound HO.out) (fun q hq => hq.2.2.1)) HB2.out⟩
   have HB1 : Aside0 (Below w.heap.size w w2) := ⟨below_step HB.out HB2.out⟩
   have HZ : Aside0 (S1 ≤ S2 ∧ w.heap.size ≤ S1) := ⟨by rw [hS1, hS2]; exact ⟨HB2.out.size, HB.out.size⟩⟩
   have HZ2 : Aside0 (S2 ≤ w2.heap.size) := ⟨by omega⟩
   clear HP HO HB HB2 hS1 hS2
   go_loopg [9, 10, 24] ps.length (fun g2 _ _ v24 w3 => ∃ (j : Nat) (cur3 : List Bool), v24 = .int .i64 j ∧ j ≤ ps.length ∧ ps.length - j ≤ g2 ∧ Aside0 (((markAll u.size (ps.drop j) cur3).bind (covAll k a0 (l1.drop (i + 1)))) = some r) ∧
    Aside0 (Kd.R Kd.bool 4 w3 w.heap.size (fun q => q < S1) (.slice A a0.size cap) cur3) ∧ Aside0 (Kd.R (Kd.int .i64) 2 w3 S1 (fun q => S1 ≤ q ∧ q < S2) (.slice A2 ps.length c2) ps) ∧ Aside0 (Below w.heap.size w w3) ∧ Aside0 (S2 ≤ w3.heap.size))
   case atStart => exact ⟨0, cur, rfl, by omega, by omega, H2, HO1, HP1, HB1, HZ2⟩
   case round =>
    clear HO1 HP1 HB1 H2 HZ2
    obtain ⟨j, cur3, rfl, hj, hg2, H2, HO3, HP3, HB3, HZ3⟩ := hrel
    by_cases hjl : j < ps.length
    ·
     have hjz : (j : Int) < (ps.length : Int) := by omega
     obtain ⟨g2b, cap2, hv, _, _, _⟩ := Kd.R_form HP3.out (by omega)
     injection hv with e1 e2 e3
     subst e1; subst e3
     have hcj := (Kd.R_celln (d := 0) HP3.out (j : Int) (by omega) hjz).1
     have h := H2.out
     have hdr : ps.drop j = rdOf 0 ps (j : Int) :: ps.drop (j + 1) := rdOf_drop 0 ps j hjl
     rw [hdr] at h
     clear hdr
     generalize rdOf 0 ps (j : Int) = q at hcj h
     simp only [markAll] at h
     simp only [Option.bind_assoc] at h
     have hps := (Kd.R_reads' HP3.out).2.2.2.1
     simp only [Int.toNat_natCast] at hcj
     have H4 := Aside0.mk h
     clear h H2
     go_wp2
     obtain ⟨S3, hS3⟩ : ∃ n, n = wr.heap.size := ⟨_, rfl⟩
     have HO4 : Aside0 (Kd.R Kd.bool 4 (wr.iter u 0) w.heap.size (fun q => q < S1) (.slice A a0.size cap) cur3) := ⟨Kd.R_alloc HO3.out _⟩
     have HP4 : Aside0 (Kd.R (Kd.int .i64) 2 (wr.iter u 0) S1 (fun q => S1 ≤ q ∧ q < S2) (.slice (some ⟨g2b, 0, none⟩) ps.length c2) ps) := ⟨Kd.R_alloc HP3.out _⟩
     have HB4 : Aside0 (Below w.heap.size w (wr.iter u 0)) := ⟨below_alloc HB3.out _⟩
     have HZ4 : Aside0 (S3 < (wr.iter u 0).heap.size ∧ S2 ≤ S3) := ⟨by rw [hS3]; exact ⟨by show wr.heap.size < (wr.heap.push _).size; rw [Array.size_push]; omega, HZ3.out⟩⟩
     have hit : (wr.iter u 0).heap[S3]? = some (.stringIter u 0) := by rw [hS3]; exact World.iter_heap wr u 0
     rw [← hS3]
     clear HO3 HP3 HB3 HZ3 hcj
     generalize wr.iter u 0 = w4 at HO4 HP4 HB4 HZ4 hit ⊢
     go_loopg [10] u.size (fun g4 _ w5 => ∃ (t : Nat) (cur5 : List Bool), t ≤ u.size ∧ u.size - t ≤ g4 ∧ w5.heap[S3]? = some (Obj.stringIter u t) ∧ Aside0 (((markAt q (u.size - t) t cur5).bind fun o => (markAll u.size (ps.drop (j + 1)) o).bind (covAll k a0 (l1.drop (i + 1)))) = some r) ∧
      Aside0 (Kd.R Kd.bool 4 w5 w.heap.size (fun q => q < S1) (.slice A a0.size cap) cur5) ∧ Aside0 (Kd.R (Kd.int .i64) 2 w5 S1 (fun q => S1 ≤ q ∧ q < S2) (.slice (some ⟨g2b, 0, none⟩) ps.length c2) ps) ∧ Aside0 (Below w.heap.size w w5) ∧ Aside0 (S3 < w5.heap.size))
     case atStart => exact ⟨0, cur3, by omega, by omega, hit, H4, HO4, HP4, HB4, ⟨HZ4.out.1⟩⟩
     case round =>
      have HZ5 : Aside0 (S2 ≤ S3) := ⟨HZ4.out.2⟩
      clear HO4 HP4 HB4 HZ4 H4 hit hS3
      obtain ⟨t, cur5, ht, hg4, hit, H5, HO5, HP5, HB5, HZ6⟩ := hrel
      by_cases htl : t < u.size
      ·
       have h := H5.out
       rw [show u.size - t = (u.size - (t + 1)) + 1 by omega] at h
       simp only [markAt] at h
       by_cases hm : 0 ≤ wrap64 (q + (t : Int)) ∧ wrap64 (q + (t : Int)) < (cur5.length : Int)
       case neg => rw [if_neg hm] at h; cases h
       rw [if_pos hm] at h
       have H6 := Aside0.mk h
       clear h H5
       have hcl := (Kd.R_reads' HO5.out).1
       have hnext := fun ty => next_more wr S3 u t ty hit htl (isW_ascii HU.out t htl)
       have HO6 : Aside0 (Kd.R Kd.bool 4 (adv wr S3 (.stringIter u (t + 1))) w.heap.size (fun q => q < S1) (.slice A a0.size cap) cur5) := ⟨Kd.R_step HO5.out (fun b hb _ => adv_far _ _ _ _ (by have := HZ5.out; have := HZ.out; omega))⟩
       have HP6 : Aside0 (Kd.R (Kd.int .i64) 2 (adv wr S3 (.stringIter u (t + 1))) S1 (fun q => S1 ≤ q ∧ q < S2) (.slice (some ⟨g2b, 0, none⟩) ps.length c2) ps) := ⟨Kd.R_step HP5.out (fun b hb _ => adv_far _ _ _ _ (by have := HZ5.out; omega))⟩
       have HB6 : Aside0 (Below w.heap.size w (adv wr S3 (.stringIter u (t + 1)))) := ⟨adv_below _ HB5.out (by have := HZ5.out; have := HZ.out; omega)⟩
       have HZ7 : Aside0 (S3 < (adv wr S3 (.stringIter u (t + 1))).heap.size) := ⟨by rw [adv_size]; exact HZ6.out⟩
       have hit2 := Aside0.mk (adv_at wr S3 (.stringIter u (t + 1)) HZ6.out)
       generalize adv wr S3 (.stringIter u (t + 1)) = w6 at HO6 HP6 HB6 HZ7 hit2 hnext
       clear HO5 HP5 HB5 HZ6 hit
       obtain ⟨g, capg, hv, hbase, hgl, _⟩ := Kd.R_form HO6.out (by omega)
       injection hv with e1 e2 e3
       subst e1; subst e3
       generalize hx : wrap64 (q + (t : Int)) = x at hm H6
       have hx0 : 0 ≤ x := hm.1
       have hx1 : x < (a0.size : Int) := by omega
       obtain ⟨hc1, hc2⟩ := Kd.R_celln (d := false) HO6.out x hx0 hx1
       have HPut := Aside0.mk (Kd.R_putg HO6.out x true)
       generalize rdOf false cur5 x = old at hc1
       go_wp2
       go_roundg (u.size - (t + 1))
       case measure => omega
       case rel =>
        have hg1 : g < S1 := HO6.out.1 g rfl
        have hz1 := HZ.out
        have hz5 := HZ5.out
        refine ⟨t + 1, cur5.set x.toNat true, by omega, by omega, ?_, H6, ⟨HPut.out.1⟩, ⟨?_⟩, ⟨below_set HB6.out hbase⟩, ⟨Nat.lt_of_lt_of_le HZ7.out HPut.out.2.size⟩⟩
        ·
         exact (Below.heap_setCell _ _ _ _ (by show S3 ≠ g; omega)).trans hit2.out
        ·
         exact Kd.R_step HP6.out (fun b hb _ => Below.heap_setCell _ _ _ _ (by show b ≠ g; omega))
      ·
       have h := H5.out
       obtain rfl : t = u.size := by omega
       rw [Nat.sub_self] at h
       simp only [markAt, Option.bind_some] at h
       have H6 := Aside0.mk h
       clear h H5
       have hnext := fun ty => next_none wr S3 u u.size ty hit htl
       go_wp2
       go_roundg (ps.length - (j + 1))
       case measure => omega
       case rel => exact ⟨j + 1, cur5, by go_num, by omega, by omega, H6, HO5, HP5, HB5, ⟨by have := HZ5.out; have := HZ6.out; omega⟩⟩
    ·
     have hjz : ¬ (j : Int) < (ps.length : Int) := by omega
     have h := H2.out
     rw [List.drop_eq_nil_of_le (by omega)] at h
     simp only [markAll, Option.bind_some] at h
     have H3 := Aside0.mk h
     clear h H2
     go_wp2
     go_roundg (l1.length - (i + 1))
     case measure => omega
     case rel => exact ⟨i + 1, cur3, by go_num, by omega, by omega, H3, ⟨Kd.R_mono HO3.out (fun _ _ => trivial)⟩, HB3⟩
  ·
   have hltz : ¬ (i : Int) < (l1.length : Int) := by omega
   have h := H.out
   rw [List.drop_eq_nil_of_le (by omega)] at h
   simp only [covAll, Option.some.injEq] at h
   subst h
   clear H
   go_wp2
   go_ret
   exact ⟨_, rfl, HO.out, HB.out⟩

end Go.Proofs.YtcfphjjdbccnoaaGreat.PF
