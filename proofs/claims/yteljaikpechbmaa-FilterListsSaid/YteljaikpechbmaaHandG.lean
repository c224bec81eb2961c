/- Contracts of layer 17, proved by hand: a chain back; an empty chain. -/
import Derived.Test.YteljaikpechbmaaHandF
namespace Go.Proofs.Yteljaikpechbmaa.Hand
open Go.RowKit Go.Proofs.Yteljaikpechbmaa.Q Go.Proofs.YteljaikpechbmaaW.PrintWords Go.Proofs.YteljaikpechbmaaW.PrintLast Go.Proofs.YteljaikpechbmaaW.PrintMore
set_option linter.unusedVariables false
set_option linter.unusedSimpArgs false

theorem inv_next {st : List Step} {i : Nat} {s : Step} (y : Int) (hs : st[i]? = some s) :
    (st.take (i + 1) ++ (inv (st.drop (i + 1)) y).1)[i]? = some s ∧
    (inv (st.drop i) y).2 = wrap32 ((inv (st.drop (i + 1)) y).2 + s.tell) ∧
    (st.take (i + 1) ++ (inv (st.drop (i + 1)) y).1).set i (s.see (wrap32 ((inv (st.drop (i + 1)) y).2 + s.tell)) (inv (st.drop (i + 1)) y).2) = st.take i ++ (inv (st.drop i) y).1 := by
  have hi : i < st.length := (List.getElem?_eq_some_iff.1 hs).1
  have he : st[i] = s := (List.getElem?_eq_some_iff.1 hs).2
  have hd : st.drop i = s :: st.drop (i + 1) := by rw [List.drop_eq_getElem_cons hi, he]
  have ht : st.take (i + 1) = st.take i ++ [s] := by rw [List.take_succ_eq_append_getElem hi, he]
  have hl : (st.take i).length = i := by rw [List.length_take]; omega
  refine ⟨?_, ?_, ?_⟩
  · rw [ht, List.append_assoc, List.getElem?_append_right (by omega), hl, Nat.sub_self]
    rfl
  · rw [hd, inv]
  · rw [ht, hd, List.append_assoc, List.set_append_right _ _ (by omega), hl, Nat.sub_self]
    rfl
set_option maxHeartbeats 8000000 in
set_option maxRecDepth 100000 in
theorem Inverse_row (B g b : Nat) (ls : List Lay) (st : List Step) (x : Int) (w : World) (h : ChAt w B g (.slice (some ⟨b, 0, none⟩) ls.length ls.length) ls st) (x0 : -9223372036854775808 ≤ x) (x1 : x ≤ 9223372036854775807) :
    Calls Try.prog 11 #[.pointer (some ⟨g, 0, none⟩), .int .i64 x] w fun e w' => e = .returned (.int .i64 (inv st (wrap32 x)).2) ∧ ChAt w' B g (.slice (some ⟨b, 0, none⟩) ls.length ls.length) ls (inv st (wrap32 x)).1 ∧ Saw B (fun k => k ∈ ls.flatMap Lay.blocks) w w' := by
  have hup := Try.underlying24
  have c0 : w.cell? ⟨g, 0, none⟩ = some (.slice (some ⟨b, 0, none⟩) ls.length ls.length) := blk_cell h.hd 0
  have HWR := Aside0.mk (fun (y : Int) (W : World) => wrap_any y W)
  have H := Aside0.mk h
  have hfew := h.few
  clear h
  obtain ⟨y, hy⟩ : ∃ y, wrap32 x = y := ⟨_, rfl⟩
  have HY := Aside0.mk hy
  rw [hy]
  have hin := wrap32_in x
  rw [hy] at hin
  have HIN := Aside0.mk hin
  clear hin hy
  go_enter Try.func11, Try.ntmps11
  go_wp2_with fail
  refine (HWR.out _ _).mono ?_
  rintro e w1 ⟨rfl, hd⟩
  have H1 := Aside0.mk (H.out.of_drawn hd)
  have HM1 := Aside0.mk ((Saw.refl B (fun k => k ∈ ls.flatMap Lay.blocks) w).drawn hd)
  have c1 : w1.cell? ⟨g, 0, none⟩ = some (.slice (some ⟨b, 0, none⟩) ls.length ls.length) := blk_cell H1.out.hd 0
  clear hd c0
  rw [HY.out]
  have HLEN := Aside0.mk H.out.len
  go_wp2
  go_loopg [1, 5] ls.length (fun k xv iv wr => k ≤ ls.length ∧ iv = .int .i64 ((k : Int) - 1) ∧ xv = .int .i64 (inv (st.drop k) y).2 ∧ Aside0 (ChAt wr B g (.slice (some ⟨b, 0, none⟩) ls.length ls.length) ls (st.take k ++ (inv (st.drop k) y).1)) ∧ Aside0 (Saw B (fun k => k ∈ ls.flatMap Lay.blocks) w wr))
  case atStart =>
    have hst : st.take ls.length = st := by rw [← HLEN.out, List.take_length]
    have hsd : st.drop ls.length = [] := by rw [← HLEN.out, List.drop_length]
    exact ⟨Nat.le_refl _, rfl, by rw [hsd]; rfl, ⟨by rw [hst, hsd]; simpa [inv] using H1.out⟩, HM1⟩
  case round =>
    clear H1 HM1 c1
    obtain ⟨hi, rfl, rfl, HC, HM⟩ := hrel
    have c0 : wr.cell? ⟨g, 0, none⟩ = some (.slice (some ⟨b, 0, none⟩) ls.length ls.length) := blk_cell HC.out.hd 0
    cases gk with
    | succ i =>
      have ei : ((i + 1 : Nat) : Int) - 1 = (i : Int) := by omega
      rw [ei]
      clear ei
      have hlt : i < ls.length := by omega
      have i0 : (0 : Int) ≤ (i : Int) := by omega
      have i1 : (i : Int) < (ls.length : Int) := by omega
      have hl : ls[i]? = some ls[i] := List.getElem?_eq_getElem hlt
      have hs0 : st[i]? = some (st[i]'(by rw [HLEN.out]; exact hlt)) := List.getElem?_eq_getElem _
      generalize ls[i] = l at hl
      generalize st[i]'_ = s at hs0
      obtain ⟨n2, n3, n4⟩ := inv_next y hs0
      have HZ := inv_in (st.drop (i + 1)) y HIN.out
      have HSA := Aside0.mk (HC.out.step i l s hl n2)
      have hok := HC.out.okay s (List.mem_of_getElem? n2)
      have HP := hok.tell
      have HOK := Aside0.mk hok
      have cb := HC.out.cell hl
      have HTN := Aside0.mk (fun (w' : World) (hs : StepAt w' B l (s.see (wrap32 ((inv (st.drop (i + 1)) y).2 + s.tell)) (inv (st.drop (i + 1)) y).2)) (k : Kept wr w' (fun k => k ∈ l.blocks)) => n4 ▸ HC.out.turn hl hs (hok.see _ _ (wrap32_in _)) k)
      have HMB := Aside0.mk (show ∀ b ∈ l.blocks, b ∈ ls.flatMap Lay.blocks from fun b hb => List.mem_flatMap.2 ⟨l, List.mem_of_getElem? hl, hb⟩)
      have HN3 := Aside0.mk n3
      clear n2 n3 n4 hok
      generalize (inv (st.drop (i + 1)) y).2 = z at HZ HTN HN3 ⊢
      obtain ⟨p, hp⟩ : ∃ p, s.tell = p := ⟨_, rfl⟩
      have HPE := Aside0.mk hp
      rw [hp] at HP HTN HN3
      clear hp
      obtain ⟨z1, z2⟩ := HZ
      obtain ⟨p1, p2⟩ := HP
      cases l with
      | last k =>
        have hm1 : ∀ w : World, (method 186 45 (.pointer (some ⟨k, 0, none⟩)) "lacquer/filter.foretell").run Try.prog w = .ok (48, .pointer (some ⟨k, 0, none⟩)) w := fun _ => by kernel_rfl
        have hm2 : ∀ w : World, (method 186 45 (.pointer (some ⟨k, 0, none⟩)) "lacquer/filter.see").run Try.prog w = .ok (49, .pointer (some ⟨k, 0, none⟩)) w := fun _ => by kernel_rfl
        have cb' : wr.cell? ⟨b, i, none⟩ = some (.iface 45 (.pointer (some ⟨k, 0, none⟩))) := cb
        clear cb
        go_wp2_with fail
        refine (lastF_step HSA.out HOK.out).mono ?_
        rintro e w2 ⟨rfl, hd2⟩
        rw [HPE.out]
        go_wp2_with fail
        refine (HWR.out _ _).mono ?_
        rintro e w3 ⟨rfl, hd3⟩
        have hdd := drawn_trans hd2 hd3
        have HS3 := HSA.out.of_drawn hdd
        have HSE := Aside0.mk (lastS_step HS3 (wrap32 (z + p)) z)
        have HDD := Aside0.mk hdd
        clear hd2 hd3 hdd cb' c0
        go_wp2_with fail
        refine HSE.out.mono ?_
        rintro e w4 ⟨rfl, hs4, hm4⟩
        have HM4 := Aside0.mk ((HM.out.drawn HDD.out).trans (hm4.mono HMB.out))
        have HK4 := Aside0.mk (HTN.out w4 hs4 (by
          obtain ⟨m, hm⟩ := HDD.out
          exact (Kept.drewN (Kept.refl wr _) _).then_ (hm ▸ hm4.kept) (fun _ h => .inl h)))
        clear hs4 hm4
        go_wp2
        go_roundg i
        case measure => omega
        case rel => exact ⟨by omega, rfl, by rw [HN3.out], HK4, HM4⟩
      | taps k kw ks =>
        have hm1 : ∀ w : World, (method 186 48 (.pointer (some ⟨k, 0, none⟩)) "lacquer/filter.foretell").run Try.prog w = .ok (50, .pointer (some ⟨k, 0, none⟩)) w := fun _ => by kernel_rfl
        have hm2 : ∀ w : World, (method 186 48 (.pointer (some ⟨k, 0, none⟩)) "lacquer/filter.see").run Try.prog w = .ok (51, .pointer (some ⟨k, 0, none⟩)) w := fun _ => by kernel_rfl
        have cb' : wr.cell? ⟨b, i, none⟩ = some (.iface 48 (.pointer (some ⟨k, 0, none⟩))) := cb
        clear cb
        go_wp2_with fail
        refine (tapsF_step HSA.out HOK.out).mono ?_
        rintro e w2 ⟨rfl, hd2⟩
        rw [HPE.out]
        go_wp2_with fail
        refine (HWR.out _ _).mono ?_
        rintro e w3 ⟨rfl, hd3⟩
        have hdd := drawn_trans hd2 hd3
        have HS3 := HSA.out.of_drawn hdd
        have HSE := Aside0.mk (tapsS_step HS3 HOK.out (wrap32 (z + p)) z (by omega) (by omega))
        have HDD := Aside0.mk hdd
        clear hd2 hd3 hdd cb' c0
        go_wp2_with fail
        refine HSE.out.mono ?_
        rintro e w4 ⟨rfl, hs4, hm4⟩
        have HM4 := Aside0.mk ((HM.out.drawn HDD.out).trans (hm4.mono HMB.out))
        have HK4 := Aside0.mk (HTN.out w4 hs4 (by
          obtain ⟨m, hm⟩ := HDD.out
          exact (Kept.drewN (Kept.refl wr _) _).then_ (hm ▸ hm4.kept) (fun _ h => .inl h)))
        clear hs4 hm4
        go_wp2
        go_roundg i
        case measure => omega
        case rel => exact ⟨by omega, rfl, by rw [HN3.out], HK4, HM4⟩
    | zero =>
      rw [List.take_zero, List.nil_append, List.drop_zero] at HC
      go_wp2
      go_ret
      rw [List.drop_zero]
      exact ⟨rfl, HC.out, HM.out⟩
end Go.Proofs.Yteljaikpechbmaa.Hand
