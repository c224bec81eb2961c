/- Contracts of layer 17, proved by hand: chains of any level, and none. -/
import Derived.Test.YteljaikpechbmaaHandG
namespace Go.Proofs.Yteljaikpechbmaa.Hand
open Go.RowKit Go.Proofs.Yteljaikpechbmaa.Q Go.Proofs.YteljaikpechbmaaW.PrintWords Go.Proofs.YteljaikpechbmaaW.PrintLast Go.Proofs.YteljaikpechbmaaW.PrintMore
set_option linter.unusedVariables false
set_option linter.unusedSimpArgs false

set_option maxHeartbeats 4000000 in
theorem Forward_nil (x : Int) (w : World) : Calls Try.prog 10 #[.pointer none, .int .i64 x] w fun e w' => e = .returned (.int .i64 0) ∧ Drawn0 w w' := by
  have hup := Try.underlying24
  go_enter Try.func10, Try.ntmps10
  go_wp2
  go_ret
  exact ⟨rfl, Drawn0.refl _⟩
set_option maxHeartbeats 4000000 in
theorem Inverse_nil (x : Int) (w : World) : Calls Try.prog 11 #[.pointer none, .int .i64 x] w fun e w' => e = .returned (.int .i64 0) ∧ Drawn0 w w' := by
  have hup := Try.underlying24
  go_enter Try.func11, Try.ntmps11
  go_wp2
  go_ret
  exact ⟨rfl, Drawn0.refl _⟩
set_option maxHeartbeats 4000000 in
theorem Forward_empty (g : Nat) (x : Int) (w : World) (h : w.heap[g]? = some (.cells #[.slice none 0 0] 44 (0, 0))) : Calls Try.prog 10 #[.pointer (some ⟨g, 0, none⟩), .int .i64 x] w fun e w' => e = .returned (.int .i64 (wrap32 x)) ∧ Drawn0 w w' := by
  have hup := Try.underlying24
  have H := Aside0.mk h
  have HWR := Aside0.mk (fun (y : Int) (W : World) => wrap_any y W)
  clear h
  obtain ⟨y, hy⟩ : ∃ y, wrap32 x = y := ⟨_, rfl⟩
  have HY := Aside0.mk hy
  rw [hy]
  clear hy
  go_enter Try.func10, Try.ntmps10
  go_wp2_with fail
  refine (HWR.out _ _).mono ?_
  rintro e w1 ⟨rfl, ⟨m, rfl⟩⟩
  rw [HY.out]
  have c0 : (w.drewN m).cell? ⟨g, 0, none⟩ = some (.slice none 0 0) := blk_cell (w := w.drewN m) H.out 0
  have HD : Aside0 (Drawn0 w (w.drewN m)) := ⟨⟨m, rfl⟩⟩
  generalize w.drewN m = w1 at c0 HD ⊢
  go_wp2
  go_loopw [1, 17] (fun xv i wr => xv = .int .i64 y ∧ i = .int .i64 0 ∧ wr = w1) (fun _ _ _ => 0)
  case atStart => exact ⟨rfl, rfl, rfl⟩
  case round =>
    obtain ⟨rfl, rfl, rfl⟩ := hrel
    go_wp2
    go_ret
    exact ⟨rfl, HD.out⟩
set_option maxHeartbeats 4000000 in
theorem Inverse_empty (g : Nat) (x : Int) (w : World) (h : w.heap[g]? = some (.cells #[.slice none 0 0] 44 (0, 0))) : Calls Try.prog 11 #[.pointer (some ⟨g, 0, none⟩), .int .i64 x] w fun e w' => e = .returned (.int .i64 (wrap32 x)) ∧ Drawn0 w w' := by
  have hup := Try.underlying24
  have H := Aside0.mk h
  have HWR := Aside0.mk (fun (y : Int) (W : World) => wrap_any y W)
  clear h
  obtain ⟨y, hy⟩ : ∃ y, wrap32 x = y := ⟨_, rfl⟩
  have HY := Aside0.mk hy
  rw [hy]
  clear hy
  go_enter Try.func11, Try.ntmps11
  go_wp2_with fail
  refine (HWR.out _ _).mono ?_
  rintro e w1 ⟨rfl, ⟨m, rfl⟩⟩
  rw [HY.out]
  have c0 : (w.drewN m).cell? ⟨g, 0, none⟩ = some (.slice none 0 0) := blk_cell (w := w.drewN m) H.out 0
  have HD : Aside0 (Drawn0 w (w.drewN m)) := ⟨⟨m, rfl⟩⟩
  generalize w.drewN m = w1 at c0 HD ⊢
  go_wp2
  go_loopw [1, 5] (fun xv i wr => xv = .int .i64 y ∧ i = .int .i64 (-1) ∧ wr = w1) (fun _ _ _ => 0)
  case atStart => exact ⟨rfl, rfl, rfl⟩
  case round =>
    obtain ⟨rfl, rfl, rfl⟩ := hrel
    go_wp2
    go_ret
    exact ⟨rfl, HD.out⟩
theorem chain_nil {w w' : World} {B g : Nat} {st : List Step} (h : ChAt w B g (.slice none 0 0) [] st) : st = [] := List.length_eq_zero_iff.1 h.len
theorem Forward_any (B g : Nat) (v : Value) (ls : List Lay) (st : List Step) (x : Int) (w : World) (h : ChAt w B g v ls st) (x0 : -9223372036854775808 ≤ x) (x1 : x ≤ 9223372036854775807) :
    Calls Try.prog 10 #[.pointer (some ⟨g, 0, none⟩), .int .i64 x] w fun e w' => e = .returned (.int .i64 (fwd st (wrap32 x)).2) ∧ ChAt w' B g v ls (fwd st (wrap32 x)).1 ∧ Saw B (fun k => k ∈ ls.flatMap Lay.blocks) w w' := by
  rcases h.row with ⟨rfl, rfl⟩ | ⟨b, rfl, h2, h3⟩
  · have hst : st = [] := List.length_eq_zero_iff.1 h.len
    subst hst
    refine (Forward_empty g x w h.hd).mono ?_
    rintro e w' ⟨rfl, hd⟩
    exact ⟨rfl, h.of_drawn hd, (Saw.refl _ _ _).drawn hd⟩
  · exact Forward_row B g b ls st x w h x0 x1
theorem Inverse_any (B g : Nat) (v : Value) (ls : List Lay) (st : List Step) (x : Int) (w : World) (h : ChAt w B g v ls st) (x0 : -9223372036854775808 ≤ x) (x1 : x ≤ 9223372036854775807) :
    Calls Try.prog 11 #[.pointer (some ⟨g, 0, none⟩), .int .i64 x] w fun e w' => e = .returned (.int .i64 (inv st (wrap32 x)).2) ∧ ChAt w' B g v ls (inv st (wrap32 x)).1 ∧ Saw B (fun k => k ∈ ls.flatMap Lay.blocks) w w' := by
  rcases h.row with ⟨rfl, rfl⟩ | ⟨b, rfl, h2, h3⟩
  · have hst : st = [] := List.length_eq_zero_iff.1 h.len
    subst hst
    refine (Inverse_empty g x w h.hd).mono ?_
    rintro e w' ⟨rfl, hd⟩
    exact ⟨rfl, h.of_drawn hd, (Saw.refl _ _ _).drawn hd⟩
  · exact Inverse_row B g b ls st x w h x0 x1
end Go.Proofs.Yteljaikpechbmaa.Hand
