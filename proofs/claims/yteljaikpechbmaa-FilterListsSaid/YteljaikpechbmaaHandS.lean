/- Contracts of layer 17, proved by hand: a chain of the reference, forward and back. -/
import Derived.Test.YteljaikpechbmaaHandR
namespace Go.Proofs.Yteljaikpechbmaa.Hand
open Go.RowKit Go.Proofs.Yteljaikpechbmaa.Q Go.Proofs.YteljaikpechbmaaW.PrintWords Go.Proofs.YteljaikpechbmaaW.PrintLast Go.Proofs.YteljaikpechbmaaW.PrintMore
set_option linter.unusedVariables false
set_option linter.unusedSimpArgs false

theorem XChAt.shape {w : World} {B g : Nat} {v : Value} {ls : List XL} {st : List Step} (h : XChAt w B g v ls st) : ∃ A c, v = .slice A ls.length c := by
  obtain ⟨A, c, e⟩ := Kd.R_slice h.row
  rw [List.length_map] at e
  exact ⟨A, c, e⟩
set_option maxHeartbeats 8000000 in
set_option maxRecDepth 100000 in
theorem xForward_any (B g : Nat) (v : Value) (ls : List XL) (st : List Step) (x : Int) (w : World) (h : XChAt w B g v ls st) (x0 : -9223372036854775808 ≤ x) (x1 : x ≤ 9223372036854775807) :
    Calls Try.prog 14 #[.pointer (some ⟨g, 0, none⟩), .int .i64 x] w fun e w' => e = .returned (.int .i64 (fwd st (wrap32 x)).2) ∧ ∃ ls', XChAt w' B g v ls' (fwd st (wrap32 x)).1 ∧ XMoved B ls w w' ls' := by
  have H := Aside0.mk h
  have HWR := Aside0.mk (fun (y : Int) (W : World) => xwrap_any y W)
  obtain ⟨A, c, rfl⟩ := h.shape
  obtain ⟨n, hn⟩ : ∃ n, ls.length = n := ⟨_, rfl⟩
  have hfew := h.few
  have HLS := Aside0.mk hn
  have HLT := Aside0.mk (h.len.trans hn)
  rw [hn] at hfew H ⊢
  clear h hn
  obtain ⟨y, hy⟩ : ∃ y, wrap32 x = y := ⟨_, rfl⟩
  have HY := Aside0.mk hy
  rw [hy]
  have hin := wrap32_in x
  rw [hy] at hin
  have HIN := Aside0.mk hin
  clear hin hy
  go_enter Try.func14, Try.ntmps14
  go_wp2_with fail
  refine (HWR.out _ _).mono ?_
  rintro e w1 ⟨rfl, hd⟩
  rw [HY.out]
  have H1 := Aside0.mk (H.out.of_drawn hd)
  have HM1 := Aside0.mk ((XMoved.refl B ls w).drawn hd)
  clear hd
  go_wp2
  go_loopw [1, 5] (fun xv iv wr => ∃ (i : Nat) (ls' : List XL), i ≤ n ∧ ls'.length = n ∧ iv = .int .i64 i ∧ xv = .int .i64 (fwd (st.take i) y).2 ∧ Aside0 (XChAt wr B g (.slice A n c) ls' ((fwd (st.take i) y).1 ++ st.drop i)) ∧ Aside0 (XMoved B ls w wr ls')) (fun _ iv _ => n - (intOf iv).toNat)
  case atStart => exact ⟨0, ls, Nat.zero_le _, HLS.out, rfl, rfl, H1, HM1⟩
  case round =>
    clear H1 HM1
    obtain ⟨i, ls', hi, hln, rfl, rfl, HC, HM⟩ := hrel
    have c0 : wr.cell? ⟨g, 0, none⟩ = some (.slice A n c) := blk_cell HC.out.hd 0
    by_cases hlt : i < n
    · have i0 : (0 : Int) ≤ (i : Int) := by omega
      have i1 : (i : Int) < (n : Int) := by omega
      have hl : ls'[i]? = some (ls'[i]'(by omega)) := List.getElem?_eq_getElem _
      have hs0 : st[i]? = some (st[i]'(by rw [HLT.out]; exact hlt)) := List.getElem?_eq_getElem _
      generalize ls'[i]'_ = r at hl
      generalize st[i]'_ = s at hs0
      obtain ⟨n1', n2, n3, n4⟩ := fwd_next y hs0
      have HZ := fwd_in (st.take i) y HIN.out
      have HN3 := Aside0.mk n3
      have HN4 := Aside0.mk n4
      clear n3 n4
      generalize (fwd (st.take i) y).2 = z at HZ HN3 HN4 ⊢
      obtain ⟨b, d, ev, cb⟩ := HC.out.cell hl
      rw [hln] at ev
      injection ev with e1 _ e2
      subst e1 e2
      have HSA := Aside0.mk (HC.out.step i r s hl n2)
      have hok := HC.out.okay s (List.mem_of_getElem? n2)
      have HP := hok.tell
      have HOK := Aside0.mk hok
      have HTL := Aside0.mk (xtell_any s B r.g r.wv r.sv hok wr HSA.out)
      have HCP := HC
      clear n1' hok
      obtain ⟨p, hp⟩ : ∃ p, s.tell = p := ⟨_, rfl⟩
      rw [hp] at HP HTL HN3 HN4
      clear hp
      obtain ⟨z1, z2⟩ := HZ
      obtain ⟨p1, p2⟩ := HP
      go_wp2_with fail
      refine HTL.out.mono ?_
      rintro e w2 ⟨rfl, hd2⟩
      go_wp2_with fail
      refine (HWR.out _ _).mono ?_
      rintro e w3 ⟨rfl, hd3⟩
      have hdd := drawn_trans hd2 hd3
      have HC3 := Aside0.mk (HC.out.of_drawn hdd)
      have HM3 := Aside0.mk (HM.out.drawn hdd)
      have HSE := Aside0.mk (xsee_any s B r.g r.wv r.sv HOK.out z (wrap32 (z - p)) (by have := wrap32_in (z - p); omega) (by have := wrap32_in (z - p); omega) w3 (HC3.out.step i r s hl n2))
      have c0 : w3.cell? ⟨g, 0, none⟩ = some (.slice (some ⟨b, 0, none⟩) n c) := blk_cell HC3.out.hd 0
      obtain ⟨b2, d2, ev2, cb2⟩ := HC3.out.cell hl
      have e1 : b = b2 := by
        injection ev2 with e1 _ _
        injection e1 with e1
        injection e1 with e1
      subst e1
      clear ev2
      clear hd2 hd3 hdd cb HC HM HTL
      go_wp2_with fail
      refine HSE.out.mono ?_
      rintro e w4 ⟨rfl, sv', hx, hs, hf⟩
      obtain ⟨k1, k2, k3⟩ := HC3.out.turn hl hx (HOK.out.see _ _ ⟨z1, z2⟩) hs hf
      rw [HN4.out] at k1
      have HK4 := Aside0.mk k1
      have HM4 := Aside0.mk (HM3.out.trans k2)
      have hln2 : (ls'.set i ⟨r.g, r.wv, sv'⟩).length = n := by rw [List.length_set]; exact hln
      clear hx hs hf k1 k2 k3 c0 cb2
      go_wp2
      go_roundw
      case rel => exact ⟨i + 1, _, by omega, hln2, by go_num, by rw [HN3.out], HK4, HM4⟩
      case measure => simp [intOf]; omega
    · obtain rfl : i = n := by omega
      have hst : st.take i = st := by rw [← HLT.out, List.take_length]
      have hsd : st.drop i = [] := by rw [← HLT.out, List.drop_length]
      rw [hst, hsd, List.append_nil] at HC
      have HST := Aside0.mk hst
      clear hst hsd
      go_wp2
      go_ret
      rw [HST.out]
      exact ⟨rfl, ls', HC.out, HM.out⟩
set_option maxHeartbeats 8000000 in
set_option maxRecDepth 100000 in
theorem xInverse_any (B g : Nat) (v : Value) (ls : List XL) (st : List Step) (x : Int) (w : World) (h : XChAt w B g v ls st) (x0 : -9223372036854775808 ≤ x) (x1 : x ≤ 9223372036854775807) :
    Calls Try.prog 13 #[.pointer (some ⟨g, 0, none⟩), .int .i64 x] w fun e w' => e = .returned (.int .i64 (inv st (wrap32 x)).2) ∧ ∃ ls', XChAt w' B g v ls' (inv st (wrap32 x)).1 ∧ XMoved B ls w w' ls' := by
  have H := Aside0.mk h
  have HWR := Aside0.mk (fun (y : Int) (W : World) => xwrap_any y W)
  obtain ⟨A, c, rfl⟩ := h.shape
  obtain ⟨n, hn⟩ : ∃ n, ls.length = n := ⟨_, rfl⟩
  have hfew := h.few
  have HLS := Aside0.mk hn
  have HLT := Aside0.mk (h.len.trans hn)
  rw [hn] at hfew H ⊢
  clear h hn
  obtain ⟨y, hy⟩ : ∃ y, wrap32 x = y := ⟨_, rfl⟩
  have HY := Aside0.mk hy
  rw [hy]
  have hin := wrap32_in x
  rw [hy] at hin
  have HIN := Aside0.mk hin
  clear hin hy
  go_enter Try.func13, Try.ntmps13
  go_wp2_with fail
  refine (HWR.out _ _).mono ?_
  rintro e w1 ⟨rfl, hd⟩
  rw [HY.out]
  have H1 := Aside0.mk (H.out.of_drawn hd)
  have HM1 := Aside0.mk ((XMoved.refl B ls w).drawn hd)
  clear hd
  have c0 : w1.cell? ⟨g, 0, none⟩ = some (.slice A n c) := blk_cell H1.out.hd 0
  go_wp2
  clear c0
  go_loopg [1, 5] n (fun k xv iv wr => ∃ (ls' : List XL), k ≤ n ∧ ls'.length = n ∧ iv = .int .i64 ((k : Int) - 1) ∧ xv = .int .i64 (inv (st.drop k) y).2 ∧ Aside0 (XChAt wr B g (.slice A n c) ls' (st.take k ++ (inv (st.drop k) y).1)) ∧ Aside0 (XMoved B ls w wr ls'))
  case atStart =>
    have hst : st.take n = st := by rw [← HLT.out, List.take_length]
    have hsd : st.drop n = [] := by rw [← HLT.out, List.drop_length]
    exact ⟨ls, Nat.le_refl _, HLS.out, rfl, by rw [hsd]; rfl, ⟨by rw [hst, hsd]; simpa [inv] using H1.out⟩, HM1⟩
  case round =>
    clear H1 HM1
    obtain ⟨ls', hi, hln, rfl, rfl, HC, HM⟩ := hrel
    cases gk with
    | succ i =>
      have ei : ((i + 1 : Nat) : Int) - 1 = (i : Int) := by omega
      rw [ei]
      clear ei
      have c0 : wr.cell? ⟨g, 0, none⟩ = some (.slice A n c) := blk_cell HC.out.hd 0
      have hlt : i < n := by omega
      have i0 : (0 : Int) ≤ (i : Int) := by omega
      have i1 : (i : Int) < (n : Int) := by omega
      have hl : ls'[i]? = some (ls'[i]'(by omega)) := List.getElem?_eq_getElem _
      have hs0 : st[i]? = some (st[i]'(by rw [HLT.out]; exact hlt)) := List.getElem?_eq_getElem _
      generalize ls'[i]'_ = r at hl
      generalize st[i]'_ = s at hs0
      obtain ⟨n2, n3, n4⟩ := inv_next y hs0
      have n1' := n3
      have HZ := inv_in (st.drop (i + 1)) y HIN.out
      have HN3 := Aside0.mk n3
      have HN4 := Aside0.mk n4
      clear n3 n4
      generalize (inv (st.drop (i + 1)) y).2 = z at HZ HN3 HN4 n1' ⊢
      obtain ⟨b, d, ev, cb⟩ := HC.out.cell hl
      rw [hln] at ev
      injection ev with e1 _ e2
      subst e1 e2
      have HSA := Aside0.mk (HC.out.step i r s hl n2)
      have hok := HC.out.okay s (List.mem_of_getElem? n2)
      have HP := hok.tell
      have HOK := Aside0.mk hok
      have HTL := Aside0.mk (xtell_any s B r.g r.wv r.sv hok wr HSA.out)
      have HCP := HC
      clear n1' hok
      obtain ⟨p, hp⟩ : ∃ p, s.tell = p := ⟨_, rfl⟩
      rw [hp] at HP HTL HN3 HN4
      clear hp
      obtain ⟨z1, z2⟩ := HZ
      obtain ⟨p1, p2⟩ := HP
      go_wp2_with fail
      refine HTL.out.mono ?_
      rintro e w2 ⟨rfl, hd2⟩
      go_wp2_with fail
      refine (HWR.out _ _).mono ?_
      rintro e w3 ⟨rfl, hd3⟩
      have hdd := drawn_trans hd2 hd3
      have HC3 := Aside0.mk (HC.out.of_drawn hdd)
      have HM3 := Aside0.mk (HM.out.drawn hdd)
      have HSE := Aside0.mk (xsee_any s B r.g r.wv r.sv HOK.out (wrap32 (z + p)) z (by omega) (by omega) w3 (HC3.out.step i r s hl n2))
      have c0 : w3.cell? ⟨g, 0, none⟩ = some (.slice (some ⟨b, 0, none⟩) n c) := blk_cell HC3.out.hd 0
      obtain ⟨b2, d2, ev2, cb2⟩ := HC3.out.cell hl
      have e1 : b = b2 := by
        injection ev2 with e1 _ _
        injection e1 with e1
        injection e1 with e1
      subst e1
      clear ev2
      clear hd2 hd3 hdd cb HC HM HTL
      go_wp2_with fail
      refine HSE.out.mono ?_
      rintro e w4 ⟨rfl, sv', hx, hs, hf⟩
      obtain ⟨k1, k2, k3⟩ := HC3.out.turn hl hx (HOK.out.see _ _ (wrap32_in _)) hs hf
      rw [HN4.out] at k1
      have HK4 := Aside0.mk k1
      have HM4 := Aside0.mk (HM3.out.trans k2)
      have hln2 : (ls'.set i ⟨r.g, r.wv, sv'⟩).length = n := by rw [List.length_set]; exact hln
      clear hx hs hf k1 k2 k3 c0 cb2
      go_wp2
      go_roundg i
      case measure => omega
      case rel => exact ⟨_, by omega, hln2, rfl, by rw [HN3.out], HK4, HM4⟩
    | zero =>
      rw [List.take_zero, List.nil_append, List.drop_zero] at HC
      go_wp2
      go_ret
      rw [List.drop_zero]
      exact ⟨rfl, ls', HC.out, HM.out⟩
end Go.Proofs.Yteljaikpechbmaa.Hand
