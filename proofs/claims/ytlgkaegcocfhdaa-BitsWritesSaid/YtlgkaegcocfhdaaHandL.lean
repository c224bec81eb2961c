/- Contracts of layer 1, proved by hand: awake; BitsNone. -/
import Derived.Test.YtlgkaegcocfhdaaHandF
import Derived.Test.YtlgkaegcocfhdaaHandK
namespace Go.Proofs.Ytlgkaegcocfhdaa.Hand
open Go.RowKit Go.Proofs.Ytlgkaegcocfhdaa.Q Go.Proofs.YtlgkaegcocfhdaaW.PrintWords Go.Proofs.YtlgkaegcocfhdaaW.PrintLast Go.Proofs.YtlgkaegcocfhdaaW.PrintMore
set_option linter.unusedVariables false
set_option linter.unusedSimpArgs false

theorem wr_ne {w : World} {B g g2 p : Nat} {v : Value} {bs : List Bool} {s : ByteArray} (hw : WAt w B g v bs) (hr : RAt w g2 s p) : g ≠ g2 ∧ v.ownBlock ≠ some g2 := by
  refine ⟨fun e => ?_, (Kd.R_ne hw.2.1.all hr (by decide)).symm⟩
  subst e
  have h1 := hw.1
  rw [show w.heap[g]? = _ from hr] at h1
  injection h1 with h1
  injection h1 with h1 h2
  exact absurd h2 (by decide)
theorem RAt.moved {w w' : World} {B g g2 p : Nat} {v v' : Value} {bs : List Bool} {s : ByteArray} (hr : RAt w g2 s p) (hw : WAt w B g v bs) (hm : Moved B g w v w' v') : RAt w' g2 s p :=
  blk_kept hr hm.kept (fun h => h.elim (fun e => (wr_ne hw hr).1 e.symm) (wr_ne hw hr).2)
theorem WAt.turned {w w' : World} {B B2 g g2 p : Nat} {v : Value} {bs : List Bool} {s : ByteArray} (hw : WAt w B g v bs) (hr : RAt w g2 s p) (ht : Turned B2 g2 w w') : WAt w' B g v bs :=
  ⟨blk_kept hw.1 ht.kept (fun e => (wr_ne hw hr).1 e), Kd.R_kept hw.2.1 ht.kept (fun k hk e => (wr_ne hw hr).2 (e ▸ hk)), hw.2.2⟩
theorem WAt.below {w w' : World} {B g : Nat} {v : Value} {bs : List Bool} (h : WAt w B g v bs) (hb : Below w.heap.size w w') : WAt w' B g v bs := Raw.below h hb
theorem WAt.drawn {w w' : World} {B g : Nat} {v : Value} {bs : List Bool} (h : WAt w B g v bs) (k : Drawn0 w w') : WAt w' B g v bs := by
  obtain ⟨m, rfl⟩ := k
  exact h.below (pw_below_drewN (Below.refl _ _) m)
theorem below_drawn {B : Nat} {w w1 w2 : World} (h : Below B w w1) (k : Drawn0 w1 w2) : Below B w w2 := by
  obtain ⟨m, rfl⟩ := k
  exact pw_below_drewN h m
theorem ex_bits : strOfNums (pack (noughts (([] ++ nbits 5 3) ++ nbits 1 2) (padN (([] ++ nbits 5 3) ++ nbits 1 2).length))) = ⟨#[168]⟩ := by decide +kernel
theorem ex_len : (noughts (([] ++ nbits 5 3) ++ nbits 1 2) (padN (([] ++ nbits 5 3) ++ nbits 1 2).length)).length = 8 := by decide +kernel
theorem ex_get : getR ⟨#[168]⟩ 0 (3 : Int) = (5, 0, 3) := by decide +kernel
theorem ex_unary : unaryR ⟨#[0]⟩ 0 = (0, 10, 0) := by decide +kernel
set_option maxHeartbeats 4000000 in
set_option maxRecDepth 100000 in
theorem awake_any (w : World) : Calls Try.prog 10 #[] w fun e w' => e = .returned (.bool true) ∧ Below w.heap.size w w' := by
  have hup := Try.underlying22
  have hup2 := Try.underlying36
  go_enter Try.func10, Try.ntmps10
  go_wp2_with fail
  refine (New_any _).mono ?_
  rintro e w1 ⟨rfl, rfl⟩
  obtain ⟨g, hg⟩ : ∃ g, w.heap.size = g := ⟨_, rfl⟩
  have HW := Aside0.mk (new_at w g (by omega))
  have HB := Aside0.mk ((Below.refl w.heap.size w).alloc (Nat.le_refl _) (.cells #[.int .i64 0, .slice none 0 0] 66))
  have HGS := Aside0.mk hg
  rw [hg] at HW HB ⊢
  clear hg
  generalize w.alloc (.cells #[.int .i64 0, .slice none 0 0] 66) = w1 at HW HB ⊢
  go_wp2_with fail
  refine (Of_any _ _).mono ?_
  rintro e w2 ⟨rfl, rfl⟩
  have HW2 := Aside0.mk (HW.out.below (below_alloc (Below.refl _ _) (.cells #[.int .i64 0, .string ⟨#[168]⟩] 70)))
  have HR2 := Aside0.mk (of_at ⟨#[168]⟩ w1)
  have HB2 := Aside0.mk (HB.out.alloc (Nat.le_of_lt (HW.out.lt)) (.cells #[.int .i64 0, .string ⟨#[168]⟩] 70))
  have hgr : g ≤ w1.heap.size := Nat.le_of_lt HW.out.lt
  generalize w1.alloc (.cells #[.int .i64 0, .string ⟨#[168]⟩] 70) = w2 at HW2 HR2 HB2 ⊢
  generalize w1.heap.size = r at HR2 hgr ⊢
  have HGR := Aside0.mk hgr
  clear hgr HW HB
  go_wp2_with fail
  refine (Put_yes 5 3 (by decide) (by decide) (by decide) [] g g _ _ HW2.out (by decide)).mono ?_
  rintro e w3 ⟨rfl, v3, hE, hM⟩
  have HW3 := Aside0.mk hE
  have HR3 := Aside0.mk (HR2.out.moved HW2.out hM)
  have HB3 := Aside0.mk (HB2.out.trans hM.below)
  clear hE hM HW2 HR2 HB2
  go_wp2_with fail
  refine (Put_yes 1 2 (by decide) (by decide) (by decide) _ g g _ _ HW3.out (by decide)).mono ?_
  rintro e w4 ⟨rfl, v4, hE, hM⟩
  have HW4 := Aside0.mk hE
  have HR4 := Aside0.mk (HR3.out.moved HW3.out hM)
  have HB4 := Aside0.mk (HB3.out.trans hM.below)
  clear hE hM HW3 HR3 HB3
  go_wp2_with fail
  refine (Align_any _ g g _ _ HW4.out (by decide)).mono ?_
  rintro e w5 ⟨rfl, v5, hE, hM⟩
  have HW5 := Aside0.mk hE
  have HR5 := Aside0.mk (HR4.out.moved HW4.out hM)
  have HB5 := Aside0.mk (HB4.out.trans hM.below)
  clear hE hM HW4 HR4 HB4
  have HLEN := Aside0.mk ex_len
  have HTXT := Aside0.mk ex_bits
  generalize noughts (([] ++ nbits 5 3) ++ nbits 1 2) (padN (([] ++ nbits 5 3) ++ nbits 1 2).length) = bs at HW5 HLEN HTXT
  go_wp2_with fail
  refine (Get_any ⟨#[168]⟩ (by decide) 0 (by decide) 3 g r HGR.out _ HR5.out).mono ?_
  rintro e w6 ⟨rfl, hE, hT⟩
  rw [ex_get] at hE ⊢
  have HW6 := Aside0.mk (HW5.out.turned HR5.out hT)
  have HR6 := Aside0.mk hE
  have HB6 := Aside0.mk (HB5.out.trans hT.below)
  clear hE hT HW5 HR5 HB5
  go_wp2_with fail
  refine (Of_any _ _).mono ?_
  rintro e w7 ⟨rfl, rfl⟩
  have HW7 := Aside0.mk (HW6.out.below (below_alloc (Below.refl _ _) (.cells #[.int .i64 0, .string ⟨#[0]⟩] 70)))
  have HR7 := Aside0.mk (HR6.out.new (.cells #[.int .i64 0, .string ⟨#[0]⟩] 70))
  have HX7 := Aside0.mk (of_at ⟨#[0]⟩ w6)
  have HB7 := Aside0.mk (HB6.out.alloc (by have := HW6.out.lt; omega) (.cells #[.int .i64 0, .string ⟨#[0]⟩] 70))
  have HXR := Aside0.mk (show r ≠ w6.heap.size by have := HR6.out.lt; omega)
  have HGX := Aside0.mk (show g ≤ w6.heap.size by have := HW6.out.lt; omega)
  generalize w6.alloc (.cells #[.int .i64 0, .string ⟨#[0]⟩] 70) = w7 at HW7 HR7 HX7 HB7 ⊢
  generalize w6.heap.size = x at HX7 HXR HGX ⊢
  clear HW6 HR6 HB6
  go_wp2_with fail
  refine (UnaryR_any ⟨#[0]⟩ (by decide) 0 (by decide) g x HGX.out _ HX7.out).mono ?_
  rintro e w8 ⟨rfl, hE, hT⟩
  rw [ex_unary]
  have HW8 := Aside0.mk (HW7.out.turned HX7.out hT)
  have HR8 : Aside0 (RAt w8 r ⟨#[168]⟩ 3) := ⟨blk_kept HR7.out hT.kept HXR.out⟩
  have HB8 := Aside0.mk (HB7.out.trans hT.below)
  clear hE hT HW7 HR7 HB7 HX7
  go_wp2_with fail
  refine (Bytes_any bs g g _ _ HW8.out).mono ?_
  rintro e w9 ⟨rfl, rfl⟩
  rw [HTXT.out]
  go_wp2_with fail
  refine (Len_any bs g g _ _ HW8.out).mono ?_
  rintro e w9 ⟨rfl, rfl⟩
  rw [HLEN.out]
  go_wp2_with fail
  refine (At_any ⟨#[168]⟩ 3 r _ HR8.out).mono ?_
  rintro e w9 ⟨rfl, hd⟩
  have HW9 := Aside0.mk (HW8.out.drawn hd)
  have HR9 := Aside0.mk (HR8.out.drawn hd)
  have HB9 := Aside0.mk (below_drawn HB8.out hd)
  clear hd HW8 HR8 HB8
  go_wp2_with fail
  refine (Left_any ⟨#[168]⟩ (by decide) 3 r (by decide) _ HR9.out).mono ?_
  rintro e w10 ⟨rfl, hd⟩
  rw [show ((8 * (⟨#[168]⟩ : ByteArray).size - 3 : Nat) : Int) = 5 by decide]
  have HB10 := Aside0.mk (below_drawn HB9.out hd)
  clear hd HW9 HR9 HB9
  go_wp2_with fail
  refine (Put_no 8 (by decide) 3 g _ (by decide)).mono ?_
  rintro e w11 ⟨rfl, rfl⟩
  go_wp2
  go_ret
  rw [HGS.out]
  exact ⟨rfl, HB10.out⟩
end Go.Proofs.Ytlgkaegcocfhdaa.Hand
