/- Texts laid together: R11m, R11s, Sam, Sam2, Hld2. -/
import Derived.Test.YtebpacmhdkgfeaaGreatJs5
set_option linter.unusedSimpArgs false
set_option linter.unusedVariables false
namespace Go.Proofs.YtebpacmhdkgfeaaGreat
open Go.RowKit
set_option maxHeartbeats 16000000
set_option maxRecDepth 20000
theorem mem_new {L New ns : List Nd} {y : Nd} (h : ∀ n ∈ L, n ∈ New ∨ n ∈ ns) : ∀ n ∈ L ++ [y], n ∈ (y :: New) ∨ n ∈ ns := fun n hn => (List.mem_append.1 hn).elim (fun hn => (h n hn).imp (.tail _) fun h => h) fun hn => .inl (by rw [List.mem_singleton.1 hn]; exact .head _)
theorem mem_old {L New ns : List Nd} {y : Nd} (h : ∀ n ∈ L, n ∈ New ∨ n ∈ ns) (hy : y ∈ ns) : ∀ n ∈ L ++ [y], n ∈ New ∨ n ∈ ns := fun n hn => (List.mem_append.1 hn).elim (h n) fun hn => .inr (by rw [List.mem_singleton.1 hn]; exact hy)
theorem ref11_node1 (v : Value) (ns : List Nd) (x : Ino) (d : InoD) (w w00 : World) (h : encN.R w v ns) (hO : ∀ n ∈ ns, n.s.Ok w n.d) (hx : x.Ok w d) (hz : ∀ n ∈ ns, n.d.Z) (hzd : d.Z) (hl : ∀ n ∈ ns, n.d.ps.length + d.ps.length ≤ 100000000 ∧ n.d.xs.length + d.xs.length ≤ 100000000) (hld : d.ps.length + d.ps.length ≤ 100000000 ∧ d.xs.length + d.xs.length ≤ 100000000) (hn : ns.length ≤ 1000000000) :
    Calls Tryz.prog 40 #[v, .agg (Ino.cells x).toArray] w fun e w' => ∃ u, e = .returned u ∧ ∃ F New L, L.map (·.d) = Stab.rins InoD.lt InoD.norm InoD.one d false (ns.map (·.d)) ∧ (∀ n ∈ L, n ∈ New ∨ n ∈ ns) ∧ Loc w NoM w' [row encN w.heap.size 58 u L, nest w00 F New] := by
  have hL := Loc.nil w NoM
  obtain ⟨ao, c0, rfl, hel⟩ := R_elem h
  obtain ⟨xh, ⟨xp, xpn, xpc⟩, ⟨xx, xxn, xxc⟩⟩ := x
  have HO := Lib.hid hO; have HX := Lib.hid hx; have HZ := Lib.hid hz; have HZD := Lib.hid hzd; have HLN := Lib.hid hl; have HLD := Lib.hid hld
  have hk2 : d.hd.id = xh.id := by rw [← hx.hd]
  have HK2 := Lib.hid hk2
  clear h hO hx hz hzd hl hld hk2
  replace hel : ∀ (i : Nat) (hi : i < ns.length), ∃ g off, ao = some ⟨g, off, none⟩ ∧ w.rangeAt g (off + i * 13) (Ino.cells ns[i].s) := hel
  unfold Ino.cells
  simp only
  go_enter Tryz.func40, Tryz.ntmps40
  go_wp2_with (first | ((with_reducible refine gate (N := 3) rfl ?_); (refine lJ rfl hL rfl rfl cy ?_; clear hL; intro g3 w3 hL)))
  go_loopw [5, 6, 11] (fun s dd i wr => ∃ (k : Nat) (vs : Value) (dn : Bool) (L : List Nd) (F : Nat → Prop) (New : List Nd), k ≤ ns.length ∧ i = .int .i64 k ∧ dd = .bool dn ∧ s = vs ∧ L.length ≤ 2 * k ∧ Hid (Stab.rins InoD.lt InoD.norm InoD.one d false (ns.map (·.d)) = L.map (·.d) ++ Stab.rins InoD.lt InoD.norm InoD.one d dn ((ns.map (·.d)).drop k)) ∧ Hid (∀ n ∈ L, n ∈ New ∨ n ∈ ns) ∧ Loc w NoM wr [nest w00 F New, row encN w.heap.size 58 vs L, var g3 [.int .i64 xh.id.boot, .int .i64 xh.id.n, .int .i64 xh.kind, .string xh.text, .int .i64 xh.attr.at_.boot, .int .i64 xh.attr.at_.n, .int .i64 xh.attr.mode, .int .u64 xh.attr.time, .int .i64 xh.size.at_.boot, .int .i64 xh.size.at_.n, .int .i64 xh.size.n, .slice xp xpn xpc, .slice xx xxn xxc] 58]) (fun _ _ i _ => ns.length - (intOf i).toNat)
  case atStart => exact ⟨0, _, false, [], (fun _ => False), [], by omega, rfl, rfl, rfl, by simp, Lib.hid (Stab.ins_start _ _ _ _), Lib.hid (by simp), (hL.rowOff encN w.heap.size 58).nestOld (w00 := w00) (L := []) (by simp)⟩
  case round =>
    clear hL
    obtain ⟨k, vs, dn, L, F, New, hk, rfl, rfl, rfl, hlen, HS, HM, hL⟩ := hrel
    by_cases hlt : k < ns.length
    · obtain ⟨g, off, rfl, hr⟩ := hel k hlt
      have hlt' : k < (ns.map (·.d)).length := by rw [List.length_map]; exact hlt
      have HZP := Lib.hid (HZ.out _ (List.getElem_mem hlt))
      have HLP := Lib.hid (HLN.out _ (List.getElem_mem hlt))
      have HOP := Lib.hid (HO.out _ (List.getElem_mem hlt))
      have HMP := Lib.hid (List.getElem_mem hlt)
      have hk1 : ns[k].d.hd.id = ns[k].s.hd.id := by rw [HOP.out.hd]
      have he1 := fun h => Stab.ins_same HS.out hlt' h
      have he2 := fun h e => Stab.ins_new (dn_false e HS.out) hlt' h
      have he3 := fun h => Stab.ins_skip HS.out hlt' h
      simp only [List.getElem_map] at he1 he2 he3
      have HE1 := Lib.hid he1; have HE2 := Lib.hid he2; have HE3 := Lib.hid he3
      have HK1 := Lib.hid hk1
      have hrW0 : World.rangeAt _ g (off + k * 13) (Ino.cells ns[k].s) := range_below hr hL.below
      clear hr he1 he2 he3 hk1
      generalize ns[k] = n at *
      have hrW : World.rangeAt _ g (off + k * 13) [.int .i64 n.s.hd.id.boot, .int .i64 n.s.hd.id.n, .int .i64 n.s.hd.kind, .string n.s.hd.text, .int .i64 n.s.hd.attr.at_.boot, .int .i64 n.s.hd.attr.at_.n, .int .i64 n.s.hd.attr.mode, .int .u64 n.s.hd.attr.time, .int .i64 n.s.hd.size.at_.boot, .int .i64 n.s.hd.size.at_.n, .int .i64 n.s.hd.size.n, .slice n.s.p.a n.s.p.n n.s.p.c, .slice n.s.x.a n.s.x.n n.s.x.c] := hrW0
      clear hrW0
      by_cases h1 : n.s.hd.id = xh.id
      · have q1 := stampE n.s.hd.id xh.id (decide_eq_true h1)
        have HS2 := Lib.hid (HE1.out (InoD.eqv_iff.2 (by rw [HK1.out, HK2.out]; exact h1)))
        clear HS HE1 HE2 HE3 h1
        go_wp2_with (first
          | ((with_reducible refine qF rfl rfl ?_); refine lL rfl rfl rfl rfl hlt ?_) | ((with_reducible refine gate (N := 14) rfl ?_); refine lK rfl rfl rfl hrW (by rfl) ?_) | ((with_reducible refine gate (N := 8) rfl ?_); (refine lI rfl hL rfl cy ?_; clear hL; intro g8 w8 hL))
          | (go_at_call 102; have hq := ref11_node2 n.s ⟨xh, ⟨xp, xpn, xpc⟩, ⟨xx, xxn, xxc⟩⟩ n.d d _ (HOP.out.below hL.below) (HX.out.below hL.below) HLP.out.1 HLP.out.2 HZP.out HZD.out; (refine hq.mono ?_); rintro e w5 ⟨c, rfl, hch, hL5⟩; clear hq; have HCH := Lib.hid hch; clear hch; replace hL5 := ((hL5.weakRow hL.size).comm.weakRow hL.size).comm; replace hL := hL.takeAll hL5; simp only [List.cons_append, List.nil_append] at hL; clear hL5)
          | ((with_reducible refine gate (N := 40) rfl ?_); refine lM (cs := Ino.cells c) rfl hL rfl rfl rfl (by kernel_rfl) ?_; clear hL; intro gq wq hL)
          | ((with_reducible refine gate (N := 41) rfl ?_); refine ev_app1L (E := encN) (⟨c, n.d.one d⟩ : Nd) rfl hL rfl rfl rfl mx (fun _ => sx) rfl rfl rfl (by first | omega | (simp; omega)) hL.size ?_; clear hL; intro ao' c' wq hL)
          | ((with_reducible refine qB rfl rfl ?_); (first | (refine lA rfl hL rfl rfl HasV.mem (by rfl) ?_) | (refine lF rfl hL rfl rfl HasV.mem SegC.seg ?_))) | ((with_reducible refine qC rfl rfl ?_); (first | (refine lH rfl hL rfl rfl rfl cy (by rfl) ?_) | (refine lG rfl hL rfl rfl rfl cy (by rfl) (by rfl) ?_)); clear hL; intro wq hL))
        have hN : Loc w NoM _ [row encPc w.heap.size 61 c.p.val (n.d.one d).ps, row encXt w.heap.size 64 c.x.val (n.d.one d).xs, nest w00 F New, row encN w.heap.size 58 (.slice ao' (L.length + 1) c') (L ++ [⟨c, n.d.one d⟩]), var g3 [.int .i64 xh.id.boot, .int .i64 xh.id.n, .int .i64 xh.kind, .string xh.text, .int .i64 xh.attr.at_.boot, .int .i64 xh.attr.at_.n, .int .i64 xh.attr.mode, .int .u64 xh.attr.time, .int .i64 xh.size.at_.boot, .int .i64 xh.size.at_.n, .int .i64 xh.size.n, .slice xp xpn xpc, .slice xx xxn xxc] 58] := hL.sub (by repeat (first | exact List.nil_sublist _ | apply List.Sublist.cons_cons | apply List.Sublist.cons))
        obtain ⟨F2, hL2⟩ := Loc.nestNew (i := c) (d := n.d.one d) hN HCH.out
        go_roundw
        case rel => exact ⟨k + 1, _, true, _, F2, _, by omega, by go_num, rfl, rfl, by simp; omega, Lib.hid (by rw [List.map_append]; exact HS2.out), Lib.hid (mem_new HM.out), hL2⟩
        case measure => simp [intOf]; omega
      · have q1 := stampE n.s.hd.id xh.id (decide_eq_false h1)
        have HN1 : Hid (Stab.eqv InoD.lt n.d d = false) := Lib.hid (InoD.eqv_false (by rw [HK1.out, HK2.out]; exact h1))
        clear h1 HE1
        cases dn
        · by_cases h2 : xh.id.lss n.s.hd.id
          · have HQ := Lib.hid (fun wx => ref09_less xh.id n.s.hd.id wx); rw [Mk.lssB_true h2] at HQ
            have HS2 := Lib.hid (HE2.out HN1.out rfl ((InoD.lt_iff _ _).2 (by rw [HK1.out, HK2.out]; exact h2)))
            clear HS HE2 HE3 h2
            go_wp2_with (first
              | ((with_reducible refine qF rfl rfl ?_); refine lL rfl rfl rfl rfl hlt ?_) | ((with_reducible refine gate (N := 14) rfl ?_); refine lK rfl rfl rfl hrW (by rfl) ?_) | ((with_reducible refine gate (N := 8) rfl ?_); (refine lI rfl hL rfl cy ?_; clear hL; intro g8 w8 hL))
              | (go_at_call 103; (with_reducible refine (HQ.out _).mono ?_); rintro e w5 ⟨rfl, hb5⟩; have hL := hL.call hb5; clear hb5)
              | (go_at_call 102; have hq := ref11_node2 ⟨xh, ⟨xp, xpn, xpc⟩, ⟨xx, xxn, xxc⟩⟩ ⟨xh, ⟨xp, xpn, xpc⟩, ⟨xx, xxn, xxc⟩⟩ d d _ (HX.out.below hL.below) (HX.out.below hL.below) HLD.out.1 HLD.out.2 HZD.out HZD.out; (refine hq.mono ?_); rintro e w5 ⟨c, rfl, hch, hL5⟩; clear hq; rw [InoD.one_self] at hch hL5; have HCH := Lib.hid hch; clear hch; replace hL5 := ((hL5.weakRow hL.size).comm.weakRow hL.size).comm; replace hL := hL.takeAll hL5; simp only [List.cons_append, List.nil_append] at hL; clear hL5)
              | ((with_reducible refine gate (N := 36) rfl ?_); refine lM (cs := Ino.cells c) rfl hL rfl rfl rfl (by kernel_rfl) ?_; clear hL; intro gq wq hL)
              | ((with_reducible refine gate (N := 37) rfl ?_); refine ev_app1L (E := encN) (⟨c, d.norm⟩ : Nd) rfl hL rfl rfl rfl mx (fun _ => sx) rfl rfl rfl (by first | omega | (simp; omega)) hL.size ?_; clear hL; intro ao' c' wq hL)
              | ((with_reducible refine gate (N := 40) rfl ?_); refine lM (cs := [.int .i64 n.s.hd.id.boot, .int .i64 n.s.hd.id.n, .int .i64 n.s.hd.kind, .string n.s.hd.text, .int .i64 n.s.hd.attr.at_.boot, .int .i64 n.s.hd.attr.at_.n, .int .i64 n.s.hd.attr.mode, .int .u64 n.s.hd.attr.time, .int .i64 n.s.hd.size.at_.boot, .int .i64 n.s.hd.size.at_.n, .int .i64 n.s.hd.size.n, .slice n.s.p.a n.s.p.n n.s.p.c, .slice n.s.x.a n.s.x.n n.s.x.c]) rfl hL rfl rfl rfl (by kernel_rfl) ?_; clear hL; intro gq wq hL)
              | ((with_reducible refine gate (N := 41) rfl ?_); refine ev_app1L (E := encN) n rfl hL rfl rfl rfl mx (fun _ => sx) rfl rfl rfl (by first | omega | (simp; omega)) hL.size ?_; clear hL; intro ao' c' wq hL)
              | ((with_reducible refine qB rfl rfl ?_); (first | (refine lA rfl hL rfl rfl HasV.mem (by rfl) ?_) | (refine lF rfl hL rfl rfl HasV.mem SegC.seg ?_))) | ((with_reducible refine qC rfl rfl ?_); (refine lH rfl hL rfl rfl rfl cy (by rfl) ?_); clear hL; intro wq hL) | ((with_reducible refine qA rfl rfl ?_ ?_); (exact wz rfl rfl rfl (by with_reducible rfl)); (refine lE (wz rfl rfl rfl rfl) hL rfl rfl HasV.mem SegC.seg ?_)))
            simp only [List.length_append, List.length_singleton] at hL
            have hN : Loc w NoM _ [row encPc w.heap.size 61 c.p.val (d.norm).ps, row encXt w.heap.size 64 c.x.val (d.norm).xs, nest w00 F New, row encN w.heap.size 58 (.slice ao' (L.length + 1 + 1) c') (L ++ [⟨c, d.norm⟩] ++ [n]), var g3 [.int .i64 xh.id.boot, .int .i64 xh.id.n, .int .i64 xh.kind, .string xh.text, .int .i64 xh.attr.at_.boot, .int .i64 xh.attr.at_.n, .int .i64 xh.attr.mode, .int .u64 xh.attr.time, .int .i64 xh.size.at_.boot, .int .i64 xh.size.at_.n, .int .i64 xh.size.n, .slice xp xpn xpc, .slice xx xxn xxc] 58] := hL.sub (by repeat (first | exact List.nil_sublist _ | apply List.Sublist.cons_cons | apply List.Sublist.cons))
            obtain ⟨F2, hL2⟩ := Loc.nestNew (i := c) (d := d.norm) hN HCH.out
            go_roundw
            case rel => exact ⟨k + 1, _, true, _, F2, _, by omega, by go_num, rfl, rfl, by simp; omega, Lib.hid (by rw [List.map_append, List.map_append]; exact HS2.out), Lib.hid (mem_old (mem_new HM.out) HMP.out), hL2⟩
            case measure => simp [intOf]; omega
          · have HQ := Lib.hid (fun wx => ref09_less xh.id n.s.hd.id wx); rw [Mk.lssB_not h2] at HQ
            have HS2 := Lib.hid (HE3.out HN1.out (.inr (InoD.lt_false (by rw [HK1.out, HK2.out]; exact h2))))
            clear HS HE2 HE3 h2
            go_wp2_with (first
              | ((with_reducible refine qF rfl rfl ?_); refine lL rfl rfl rfl rfl hlt ?_) | ((with_reducible refine gate (N := 14) rfl ?_); refine lK rfl rfl rfl hrW (by rfl) ?_) | ((with_reducible refine gate (N := 8) rfl ?_); (refine lI rfl hL rfl cy ?_; clear hL; intro g8 w8 hL))
              | (go_at_call 103; (with_reducible refine (HQ.out _).mono ?_); rintro e w5 ⟨rfl, hb5⟩; have hL := hL.call hb5; clear hb5)
              | ((with_reducible refine gate (N := 40) rfl ?_); refine lM (cs := [.int .i64 n.s.hd.id.boot, .int .i64 n.s.hd.id.n, .int .i64 n.s.hd.kind, .string n.s.hd.text, .int .i64 n.s.hd.attr.at_.boot, .int .i64 n.s.hd.attr.at_.n, .int .i64 n.s.hd.attr.mode, .int .u64 n.s.hd.attr.time, .int .i64 n.s.hd.size.at_.boot, .int .i64 n.s.hd.size.at_.n, .int .i64 n.s.hd.size.n, .slice n.s.p.a n.s.p.n n.s.p.c, .slice n.s.x.a n.s.x.n n.s.x.c]) rfl hL rfl rfl rfl (by kernel_rfl) ?_; clear hL; intro gq wq hL)
              | ((with_reducible refine gate (N := 41) rfl ?_); refine ev_app1L (E := encN) n rfl hL rfl rfl rfl mx (fun _ => sx) rfl rfl rfl (by first | omega | (simp; omega)) hL.size ?_; clear hL; intro ao' c' wq hL)
              | ((with_reducible refine qB rfl rfl ?_); (first | (refine lA rfl hL rfl rfl HasV.mem (by rfl) ?_) | (refine lF rfl hL rfl rfl HasV.mem SegC.seg ?_))) | ((with_reducible refine qC rfl rfl ?_); (refine lH rfl hL rfl rfl rfl cy (by rfl) ?_); clear hL; intro wq hL) | ((with_reducible refine qA rfl rfl ?_ ?_); (exact wz rfl rfl rfl (by with_reducible rfl)); (refine lE (wz rfl rfl rfl rfl) hL rfl rfl HasV.mem SegC.seg ?_)))
            go_roundw
            case rel => exact ⟨k + 1, _, false, _, F, New, by omega, by go_num, rfl, rfl, by simp; omega, Lib.hid (by rw [List.map_append]; exact HS2.out), Lib.hid (mem_old HM.out HMP.out), hL.sub (by repeat (first | exact List.nil_sublist _ | with_reducible apply List.Sublist.cons_cons | with_reducible apply List.Sublist.cons))⟩
            case measure => simp [intOf]; omega
        · have HS2 := Lib.hid (HE3.out HN1.out (.inl rfl))
          clear HS HE2 HE3
          go_wp2_with (first
            | ((with_reducible refine qF rfl rfl ?_); refine lL rfl rfl rfl rfl hlt ?_) | ((with_reducible refine gate (N := 14) rfl ?_); refine lK rfl rfl rfl hrW (by rfl) ?_) | ((with_reducible refine gate (N := 8) rfl ?_); (refine lI rfl hL rfl cy ?_; clear hL; intro g8 w8 hL))
            | ((with_reducible refine gate (N := 40) rfl ?_); refine lM (cs := [.int .i64 n.s.hd.id.boot, .int .i64 n.s.hd.id.n, .int .i64 n.s.hd.kind, .string n.s.hd.text, .int .i64 n.s.hd.attr.at_.boot, .int .i64 n.s.hd.attr.at_.n, .int .i64 n.s.hd.attr.mode, .int .u64 n.s.hd.attr.time, .int .i64 n.s.hd.size.at_.boot, .int .i64 n.s.hd.size.at_.n, .int .i64 n.s.hd.size.n, .slice n.s.p.a n.s.p.n n.s.p.c, .slice n.s.x.a n.s.x.n n.s.x.c]) rfl hL rfl rfl rfl (by kernel_rfl) ?_; clear hL; intro gq wq hL)
            | ((with_reducible refine gate (N := 41) rfl ?_); refine ev_app1L (E := encN) n rfl hL rfl rfl rfl mx (fun _ => sx) rfl rfl rfl (by first | omega | (simp; omega)) hL.size ?_; clear hL; intro ao' c' wq hL)
            | ((with_reducible refine qB rfl rfl ?_); (first | (refine lA rfl hL rfl rfl HasV.mem (by rfl) ?_) | (refine lF rfl hL rfl rfl HasV.mem SegC.seg ?_))) | ((with_reducible refine qC rfl rfl ?_); (refine lH rfl hL rfl rfl rfl cy (by rfl) ?_); clear hL; intro wq hL))
          go_roundw
          case rel => exact ⟨k + 1, _, true, _, F, New, by omega, by go_num, rfl, rfl, by simp; omega, Lib.hid (by rw [List.map_append]; exact HS2.out), Lib.hid (mem_old HM.out HMP.out), hL.sub (by repeat (first | exact List.nil_sublist _ | with_reducible apply List.Sublist.cons_cons | with_reducible apply List.Sublist.cons))⟩
          case measure => simp [intOf]; omega
    · have hk9 : (ns.map (·.d)).length ≤ k := by rw [List.length_map]; omega
      cases dn
      · have HB := Lib.hid (Stab.ins_last HS.out hk9)
        clear HS hk9
        have hk0 : ¬ k < ns.length := hlt
        go_wp2_with (first
          | ((with_reducible refine qF rfl rfl ?_); refine lL rfl rfl rfl rfl hlt ?_) | ((with_reducible refine gate (N := 14) rfl ?_); refine lK rfl rfl rfl hrW (by rfl) ?_) | ((with_reducible refine gate (N := 8) rfl ?_); (refine lI rfl hL rfl cy ?_; clear hL; intro g8 w8 hL))
          | (go_at_call 102; have hq := ref11_node2 ⟨xh, ⟨xp, xpn, xpc⟩, ⟨xx, xxn, xxc⟩⟩ ⟨xh, ⟨xp, xpn, xpc⟩, ⟨xx, xxn, xxc⟩⟩ d d _ (HX.out.below hL.below) (HX.out.below hL.below) HLD.out.1 HLD.out.2 HZD.out HZD.out; (refine hq.mono ?_); rintro e w5 ⟨c, rfl, hch, hL5⟩; clear hq; rw [InoD.one_self] at hch hL5; have HCH := Lib.hid hch; clear hch; replace hL5 := ((hL5.weakRow hL.size).comm.weakRow hL.size).comm; replace hL := hL.takeAll hL5; simp only [List.cons_append, List.nil_append] at hL; clear hL5)
          | ((with_reducible refine gate (N := 49) rfl ?_); refine lM (cs := Ino.cells c) rfl hL rfl rfl rfl (by kernel_rfl) ?_; clear hL; intro gq wq hL)
          | ((with_reducible refine gate (N := 50) rfl ?_); refine ev_app1L (E := encN) (⟨c, d.norm⟩ : Nd) rfl hL rfl rfl rfl mx (fun _ => sx) rfl rfl rfl (by first | omega | (simp; omega)) hL.size ?_; clear hL; intro ao' c' wq hL)
          | ((with_reducible refine qB rfl rfl ?_); (refine lA rfl hL rfl rfl HasV.mem (by rfl) ?_)))
        have hN : Loc w NoM _ [row encPc w.heap.size 61 c.p.val (d.norm).ps, row encXt w.heap.size 64 c.x.val (d.norm).xs, nest w00 F New, row encN w.heap.size 58 (.slice ao' (L.length + 1) c') (L ++ [⟨c, d.norm⟩]), var g3 [.int .i64 xh.id.boot, .int .i64 xh.id.n, .int .i64 xh.kind, .string xh.text, .int .i64 xh.attr.at_.boot, .int .i64 xh.attr.at_.n, .int .i64 xh.attr.mode, .int .u64 xh.attr.time, .int .i64 xh.size.at_.boot, .int .i64 xh.size.at_.n, .int .i64 xh.size.n, .slice xp xpn xpc, .slice xx xxn xxc] 58] := hL.sub (by repeat (first | exact List.nil_sublist _ | apply List.Sublist.cons_cons | apply List.Sublist.cons))
        obtain ⟨F2, hL2⟩ := Loc.nestNew (i := c) (d := d.norm) hN HCH.out
        have hF : Loc w NoM _ [nest w00 F2 (⟨c, d.norm⟩ :: New), row encN w.heap.size 58 (.slice ao' (L.length + 1) c') (L ++ [⟨c, d.norm⟩])] := hL2.sub (by repeat (first | exact List.nil_sublist _ | apply List.Sublist.cons_cons | apply List.Sublist.cons))
        go_ret
        exact ⟨_, rfl, F2, _, _, by rw [HB.out, List.map_append]; rfl, mem_new HM.out, hF.comm⟩
      · have HB := Lib.hid (Stab.ins_done HS.out hk9)
        clear HS hk9
        have hk0 : ¬ k < ns.length := hlt
        go_wp2_with fail
        have hF : Loc w NoM _ [nest w00 F New, row encN w.heap.size 58 _ L] := hL.sub (by repeat (first | exact List.nil_sublist _ | apply List.Sublist.cons_cons | apply List.Sublist.cons))
        go_ret
        exact ⟨_, rfl, F, _, _, HB.out.symm, HM.out, hF.comm⟩
end Go.Proofs.YtebpacmhdkgfeaaGreat

namespace Go.Proofs.YtebpacmhdkgfeaaGreat
open Go.RowKit
set_option maxHeartbeats 16000000
set_option maxRecDepth 20000
namespace Loc
variable {w00 w0 w : World} {l : List Item} {F1 F2 : Nat → Prop} {L1 L2 L' : List Nd} {r : Item}
theorem nestJoin0 (h : Loc w0 NoM w (nest w00 F1 L1 :: nest w00 F2 L2 :: l)) (hO : ∀ n ∈ L', n ∈ L1 ∨ n ∈ L2) : Loc w0 NoM w (nest w00 (fun k => F1 k ∨ F2 k) L' :: l) := by
  have ha := h.apart
  have h1 := h.get (.head _)
  have h2 := h.get (.tail _ (.head _))
  rw [List.pairwise_cons, List.pairwise_cons] at ha
  obtain ⟨a1, a2, a3⟩ := ha
  refine ⟨h.mod, fun j hj => ?_, fun j hj k hk => ?_, List.pairwise_cons.2 ⟨fun j hj k hk => ?_, a3⟩⟩
  · rcases List.mem_cons.1 hj with rfl | hj
    · exact nest_at ⟨fun k hk => hk.elim (h1.1 k) (h2.1 k), fun w' hz hb h0 n hn => (hO n hn).elim (h1.2 w' hz (fun k hk => hb k (.inl hk)) h0 n) (h2.2 w' hz (fun k hk => hb k (.inr hk)) h0 n)⟩
    · exact h.at_ j (.tail _ (.tail _ hj))
  · rcases List.mem_cons.1 hj with rfl | hj
    · exact hk.elim (h.new _ (.head _) k) (h.new _ (.tail _ (.head _)) k)
    · exact h.new j (.tail _ (.tail _ hj)) k hk
  · exact hk.elim (a1 j (.tail _ hj) k) (a2 j hj k)
theorem nestJoin (h : Loc w0 NoM w (r :: nest w00 F1 L1 :: nest w00 F2 L2 :: l)) (hO : ∀ n ∈ L', n ∈ L1 ∨ n ∈ L2) : Loc w0 NoM w (r :: nest w00 (fun k => F1 k ∨ F2 k) L' :: l) :=
  ((h.perm (List.perm_middle (a := r) (l₁ := [nest w00 F1 L1, nest w00 F2 L2]) (l₂ := l)).symm).nestJoin0 hO).comm
end Loc
theorem nodes_step (P l : List Nd) (k : Nat) (hk : k < l.length) : Stab.rfold InoD.lt InoD.norm InoD.one ((P ++ l.take (k + 1)).map (·.d)) = Stab.rins InoD.lt InoD.norm InoD.one l[k].d false (Stab.rfold InoD.lt InoD.norm InoD.one ((P ++ l.take k).map (·.d))) := by
  rw [← List.take_append_getElem hk, ← List.append_assoc, List.map_append (l₂ := [l[k]])]
  exact Stab.rfold_snoc _ _ _ _
theorem links_step (P l : List Lnk) (k : Nat) (hk : k < l.length) : linksD (P ++ l.take (k + 1)) = Stab.rins Lnk.lt _root_.id Lnk.one l[k] false (linksD (P ++ l.take k)) := by
  rw [← List.take_append_getElem hk, ← List.append_assoc]
  exact Stab.rfold_snoc _ _ _ _
theorem links_part {P l : List Lnk} {k N : Nat} (h : P.length + l.length ≤ N) : (linksD (P ++ l.take k)).length ≤ N := by
  have := links_len (P ++ l.take k)
  rw [List.length_append, List.length_take] at this
  omega
theorem links_partZ {P l : List Lnk} {k : Nat} (h : ∀ p ∈ P, p.Z) (h' : ∀ p ∈ l, p.Z) : ∀ p ∈ linksD (P ++ l.take k), p.Z := Stab.rfold_all (fun _ h => h) (fun _ _ h k => Lnk.Z_one h k) _ fun p hp => (List.mem_append.1 hp).elim (h p) fun hp => h' p (List.mem_of_mem_take hp)
theorem nodes_lens (B : Nat) (l : List InoD) (h : ∀ x ∈ l, x.ps.length ≤ B ∧ x.xs.length ≤ B) : ∀ y ∈ Stab.rfold InoD.lt InoD.norm InoD.one l, y.ps.length ≤ B * l.length ∧ y.xs.length ≤ B * l.length := by
  have key : ∀ n (l : List InoD), l.length = n → (∀ x ∈ l, x.ps.length ≤ B ∧ x.xs.length ≤ B) → ∀ y ∈ Stab.rfold InoD.lt InoD.norm InoD.one l, y.ps.length ≤ B * n ∧ y.xs.length ≤ B * n := fun n => by
    induction n with
    | zero => intro l hn _ y hy; rw [List.eq_nil_of_length_eq_zero hn] at hy; cases hy
    | succ n ih =>
      intro l hn hl
      obtain ⟨l', x, rfl⟩ : ∃ l' x, l = l' ++ [x] := ⟨l.dropLast, l.getLast (by intro e; rw [e] at hn; cases hn), (List.dropLast_concat_getLast _).symm⟩
      have h1 := ih l' (by simpa using hn) fun x hx => hl x (List.mem_append.2 (.inl hx))
      have h2 := hl x (List.mem_append.2 (.inr (.head _)))
      rw [Stab.rfold_snoc, Nat.mul_succ]
      have h3 := InoD.norm_len x
      refine Stab.rins_all (by omega) false _ (fun y hy => by have := h1 y hy; omega) fun y hy => ?_
      have h4 := InoD.one_len y x
      have h5 := h1 y hy
      omega
  exact key _ l rfl h
theorem nodes_partL {B N : Nat} {P l L : List Nd} {k : Nat} (e : L.map (·.d) = Stab.rfold InoD.lt InoD.norm InoD.one ((P ++ l.take k).map (·.d))) (hB : ∀ n ∈ P ++ l, n.d.ps.length ≤ B ∧ n.d.xs.length ≤ B) (hn : B * (P.length + l.length) ≤ N) : ∀ n ∈ L, n.d.ps.length ≤ N ∧ n.d.xs.length ≤ N := fun n hn' => by
  have h1 := nodes_lens B ((P ++ l.take k).map (·.d)) (fun x hx => by
    obtain ⟨n, hn, rfl⟩ := List.mem_map.1 hx
    exact hB n ((List.mem_append.1 hn).elim (fun h => List.mem_append.2 (.inl h)) fun h => List.mem_append.2 (.inr (List.mem_of_mem_take h)))) n.d (by rw [← e]; exact List.mem_map.2 ⟨n, hn', rfl⟩)
  have h2 : B * ((P ++ l.take k).map (·.d)).length ≤ B * (P.length + l.length) := Nat.mul_le_mul_left _ (by rw [List.length_map, List.length_append, List.length_take]; omega)
  omega
theorem nodes_partZ {P l L : List Nd} {k : Nat} (e : L.map (·.d) = Stab.rfold InoD.lt InoD.norm InoD.one ((P ++ l.take k).map (·.d))) (hB : ∀ n ∈ P ++ l, n.d.Z) : ∀ n ∈ L, n.d.Z := fun n hn' =>
  Stab.rfold_all (fun _ h => InoD.Z_norm h) (fun _ _ h k => InoD.Z_one h k) ((P ++ l.take k).map (·.d)) (fun x hx => by
    obtain ⟨n, hn, rfl⟩ := List.mem_map.1 hx
    exact hB n ((List.mem_append.1 hn).elim (fun h => List.mem_append.2 (.inl h)) fun h => List.mem_append.2 (.inr (List.mem_of_mem_take h)))) n.d (by rw [← e]; exact List.mem_map.2 ⟨n, hn', rfl⟩)
theorem nodes_partN {P l L : List Nd} {k N : Nat} (e : L.map (·.d) = Stab.rfold InoD.lt InoD.norm InoD.one ((P ++ l.take k).map (·.d))) (hn : P.length + l.length ≤ N) : L.length ≤ N := by
  have h1 := Stab.rfold_len (lt := InoD.lt) InoD.norm InoD.one ((P ++ l.take k).map (·.d))
  rw [← e, List.length_map, List.length_map, List.length_append, List.length_take] at h1
  omega
theorem ref11_states0 (s t : Sta) (ds dt : StaD) (w00 w : World) (hb00 : Below w00.heap.size w00 w) (hs : s.Ok w ds) (ht : t.Ok w dt) (B : Nat) (hB : ∀ n ∈ ds.nodes ++ dt.nodes, n.ps.length ≤ B ∧ n.xs.length ≤ B) (hn : ds.nodes.length + dt.nodes.length ≤ 1000000) (hBn : B * (ds.nodes.length + dt.nodes.length) ≤ 10000000) (hB0 : B ≤ 10000000) (hl : ds.links.length + dt.links.length ≤ 100000000) (hz : ∀ n ∈ ds.nodes ++ dt.nodes, n.Z) (hzl : ∀ l ∈ ds.links ++ dt.links, l.Z) :
    Calls Tryz.prog 12 #[.agg (Sta.cells s).toArray, .agg (Sta.cells t).toArray] w fun e w' => ∃ r : Sta, e = .returned (.agg (Sta.cells r).toArray) ∧ r.seen = (ds.join dt).seen ∧ ∃ F L, L.map (·.d) = (ds.join dt).nodes ∧ Loc w NoM w' [row encN w.heap.size 58 r.nodes.val L, row encK w.heap.size 46 r.links.val (ds.join dt).links, nest w00 F L] := by
  have hL := Loc.nil w NoM
  obtain ⟨sv, ⟨a1, n1, c1⟩, ⟨a2, n2, c2⟩⟩ := s
  obtain ⟨tv, ⟨b1, m1, e1⟩, ⟨b2, m2, e2⟩⟩ := t
  obtain ⟨sv', dn, dl⟩ := ds
  obtain ⟨tv', en, el⟩ := dt
  obtain ⟨h1, ⟨ns, hns, hno, hnd⟩, hlk⟩ := hs
  obtain ⟨h2, ⟨ms, hms, hmo, hmd⟩, hmk⟩ := ht
  simp only at h1 h2 hnd hmd hns hms hlk hmk hB hn hBn hl hz hzl
  subst h1 h2 hnd hmd
  obtain ⟨qa1, ca1, ea1, hpa⟩ := R_elem hns
  obtain ⟨qa2, ca2, ea2, hxa⟩ := R_elem hlk
  obtain ⟨qb1, cb1, eb1, hpb⟩ := R_elem hms
  obtain ⟨qb2, cb2, eb2, hxb⟩ := R_elem hmk
  unfold Sl.val at ea1 ea2 eb1 eb2
  injection ea1 with i1 i2 i3
  injection ea2 with j1 j2 j3
  injection eb1 with k1 k2 k3
  injection eb2 with l1 l2 l3
  subst i1 i2 i3 j1 j2 j3 k1 k2 k3 l1 l2 l3
  have HSO := Lib.hid hno; have HTO := Lib.hid hmo
  have HBO : Hid (∀ n ∈ ns ++ ms, n.d.ps.length ≤ B ∧ n.d.xs.length ≤ B) := Lib.hid fun n hn => hB n.d (by rw [← List.map_append]; exact List.mem_map.2 ⟨n, hn, rfl⟩)
  have HZO : Hid (∀ n ∈ ns ++ ms, n.d.Z) := Lib.hid fun n hn => hz n.d (by rw [← List.map_append]; exact List.mem_map.2 ⟨n, hn, rfl⟩)
  rw [List.length_map, List.length_map] at hn hBn
  have HN := Lib.hid hn; have HBN := Lib.hid hBn; have HLN := Lib.hid hl; have HB0 := Lib.hid hB0
  have ZL1 : Hid (∀ l ∈ dl, l.Z) := Lib.hid fun l h => hzl l (List.mem_append.2 (.inl h))
  have ZL2 : Hid (∀ l ∈ el, l.Z) := Lib.hid fun l h => hzl l (List.mem_append.2 (.inr h))
  have HSJ : Hid ((StaD.join ⟨sv, ns.map (·.d), dl⟩ ⟨tv, ms.map (·.d), el⟩).seen = sv.join tv) := Lib.hid rfl
  have HNJ : Hid ((StaD.join ⟨sv, ns.map (·.d), dl⟩ ⟨tv, ms.map (·.d), el⟩).nodes = Stab.rfold InoD.lt InoD.norm InoD.one ((ns ++ ms).map (·.d))) := Lib.hid (by rw [nodes_doc, List.map_append]; rfl)
  have HLJ : Hid ((StaD.join ⟨sv, ns.map (·.d), dl⟩ ⟨tv, ms.map (·.d), el⟩).links = linksD (dl ++ el)) := Lib.hid rfl
  generalize StaD.join ⟨sv, ns.map (·.d), dl⟩ ⟨tv, ms.map (·.d), el⟩ = dj at *
  have hvj := Lib.hid (fun wx => ref09_join sv tv wx)
  clear hns hno hlk hms hmo hmk hB hn hBn hB0 hl hz hzl
  replace hpa : ∀ (i : Nat) (hi : i < ns.length), ∃ g off, a1 = some ⟨g, off, none⟩ ∧ w.rangeAt g (off + i * 13) (Ino.cells ns[i].s) := hpa
  replace hxa : ∀ (i : Nat) (hi : i < dl.length), ∃ g off, a2 = some ⟨g, off, none⟩ ∧ w.rangeAt g (off + i * 25) (Lnk.cells dl[i]) := hxa
  replace hpb : ∀ (i : Nat) (hi : i < ms.length), ∃ g off, b1 = some ⟨g, off, none⟩ ∧ w.rangeAt g (off + i * 13) (Ino.cells ms[i].s) := hpb
  replace hxb : ∀ (i : Nat) (hi : i < el.length), ∃ g off, b2 = some ⟨g, off, none⟩ ∧ w.rangeAt g (off + i * 25) (Lnk.cells el[i]) := hxb
  unfold Sta.cells
  simp only
  go_enter Tryz.func12, Tryz.ntmps12
  go_wp2_with (first
    | ((with_reducible refine gate (N := 2) rfl ?_); (refine lJ rfl hL rfl rfl cy ?_; clear hL; intro g2 w2 hL)) | ((with_reducible refine gate (N := 3) rfl ?_); (refine lJ rfl hL rfl rfl cy ?_; clear hL; intro g3 w3 hL)) | ((with_reducible refine gate (N := 4) rfl ?_); (refine lI rfl hL rfl cy ?_; clear hL; intro g4 w4 hL)) | ((with_reducible refine gate (N := 5) rfl ?_); (refine lI rfl hL rfl cy ?_; clear hL; intro g5 w5 hL))
    | (go_at_call 39; (with_reducible refine (hvj.out _).mono ?_); rintro e w9 ⟨⟨jv, ejv, rfl⟩, hb9⟩; have HJV := Lib.hid ejv; clear ejv; have hL := hL.call hb9; clear hb9)
    | ((with_reducible refine qB rfl rfl ?_); (first | (refine lC rfl hL rfl rfl HasV.mem (by rfl) ?_) | (refine lF rfl hL rfl rfl HasV.mem SegC.seg ?_))) | ((with_reducible refine qC rfl rfl ?_); (refine lH rfl hL rfl rfl rfl cy (by rfl) ?_); clear hL; intro wq hL))
  go_loopw [23] (fun i wr => ∃ (k : Nat) (s : Sl) (F : Nat → Prop) (L : List Nd), k ≤ ns.length ∧ i = .int .i64 k ∧ Hid (L.map (·.d) = Stab.rfold InoD.lt InoD.norm InoD.one ((([] : List Nd) ++ ns.take k).map (·.d))) ∧ Loc w NoM wr [row encN w.heap.size 58 s.val L, nest w00 F L, row encK w.heap.size 46 (.slice none 0 0) [], var g5 [.int .i64 jv.a0, .int .i64 jv.a1, .int .i64 jv.a2, .int .i64 jv.a3, .int .i64 jv.a4, .int .i64 jv.a5, .int .i64 jv.a6, .int .i64 jv.a7, .slice s.a s.n s.c, .slice none 0 0] 27, var g4 [.int .i64 0, .int .i64 0, .int .i64 0, .int .i64 0, .int .i64 0, .int .i64 0, .int .i64 0, .int .i64 0, .slice none 0 0, .slice none 0 0] 27, var g3 [.int .i64 tv.a0, .int .i64 tv.a1, .int .i64 tv.a2, .int .i64 tv.a3, .int .i64 tv.a4, .int .i64 tv.a5, .int .i64 tv.a6, .int .i64 tv.a7, .slice b1 ms.length e1, .slice b2 el.length e2] 27, var g2 [.int .i64 sv.a0, .int .i64 sv.a1, .int .i64 sv.a2, .int .i64 sv.a3, .int .i64 sv.a4, .int .i64 sv.a5, .int .i64 sv.a6, .int .i64 sv.a7, .slice a1 ns.length c1, .slice a2 dl.length c2] 27]) (fun i _ => ns.length - (intOf i).toNat)
  case atStart => exact ⟨0, ⟨none, 0, 0⟩, (fun _ => False), [], by omega, rfl, Lib.hid rfl, ((hL.rowOff encK w.heap.size 46).nestOld (w00 := w00) (L := []) (by simp)).rowOff encN w.heap.size 58⟩
  case round =>
    clear hL
    obtain ⟨k, s, F, L, hk, rfl, HD, hL⟩ := hrel
    by_cases hlt : k < ns.length
    · obtain ⟨g, off, rfl, hr⟩ := hpa k hlt
      have HMP := Lib.hid (List.getElem_mem hlt)
      have hbn : ns.length ≤ 1000000 := by have := HN.out; omega
      have HST := Lib.hid (nodes_step ([] : List Nd) ns k hlt)
      have HPL := Lib.hid (nodes_partL (N := 10000000) (P := []) (l := ns) (k := k) HD.out (fun n hn => HBO.out n (List.mem_append.2 (.inl hn))) (by have := HBN.out; have h9 : B * (([] : List Nd).length + ns.length) ≤ B * (ns.length + ms.length) := Nat.mul_le_mul_left _ (by simp only [List.length_nil]; omega); omega))
      have HPZ := Lib.hid (nodes_partZ (P := []) (l := ns) (k := k) HD.out (fun n hn => HZO.out n (List.mem_append.2 (.inl hn))))
      have HPN := Lib.hid (nodes_partN (N := 1000000) (P := []) (l := ns) (k := k) HD.out (by have := HN.out; simp only [List.length_nil]; omega))
      have HEL := Lib.hid (HBO.out _ (List.mem_append.2 (.inl HMP.out)))
      have HEZ := Lib.hid (HZO.out _ (List.mem_append.2 (.inl HMP.out)))
      have HEO := Lib.hid (HSO.out _ HMP.out)
      have hrW0 : World.rangeAt _ g (off + k * 13) (Ino.cells ns[k].s) := range_below hr hL.below
      clear hr
      rw [← HD.out] at HST
      clear HD
      generalize ns[k] = n at *
      have hrW : World.rangeAt _ g (off + k * 13) [.int .i64 n.s.hd.id.boot, .int .i64 n.s.hd.id.n, .int .i64 n.s.hd.kind, .string n.s.hd.text, .int .i64 n.s.hd.attr.at_.boot, .int .i64 n.s.hd.attr.at_.n, .int .i64 n.s.hd.attr.mode, .int .u64 n.s.hd.attr.time, .int .i64 n.s.hd.size.at_.boot, .int .i64 n.s.hd.size.at_.n, .int .i64 n.s.hd.size.n, .slice n.s.p.a n.s.p.n n.s.p.c, .slice n.s.x.a n.s.x.n n.s.x.c] := hrW0
      clear hrW0
      go_wp2_with (first
        | ((with_reducible refine qF rfl rfl ?_); refine lL rfl rfl rfl rfl hlt ?_) | ((with_reducible refine gate (N := 26) rfl ?_); refine lK rfl rfl rfl hrW (by rfl) ?_) | ((with_reducible refine gate (N := 7) rfl ?_); (refine lI rfl hL rfl cy ?_; clear hL; intro g7 w7 hL))
        | (go_at_call 40; have hq := ref11_node1 (.slice s.a s.n s.c) L n.s n.d _ w00 (hL.own (E := encN) (base := w.heap.size) (e := 58) (v := s.val) (xs := L) mx).read (hL.nested (w00 := w00) (F := F) (L := L) hb00 mx) (HEO.out.below hL.below) HPZ.out HEZ.out (fun n' hn' => by have h1 := HPL.out n' hn'; have h2 := HEL.out; have h3 := HB0.out; omega) (by have h2 := HEL.out; have h3 := HB0.out; omega) (Nat.le_trans HPN.out (by decide)); (refine hq.mono ?_); rintro e w5 ⟨u, rfl, F1, New, L1, hd1, hm1, hL5⟩; clear hq; obtain ⟨ua, uc, rfl, -⟩ := R_elem (hL5.own (.head _)).read; have HD1 := Lib.hid hd1; have HM1 := Lib.hid hm1; replace hL := hL.takeAll (hL5.weakRow hL.size); simp only [List.cons_append, List.nil_append] at hL; clear hL5 hd1 hm1)
        | ((with_reducible refine qB rfl rfl ?_); (first | (refine lC rfl hL rfl rfl HasV.mem (by rfl) ?_) | (refine lA rfl hL rfl rfl HasV.mem (by rfl) ?_))) | ((with_reducible refine qC rfl rfl ?_); (refine lH rfl hL rfl rfl rfl cy (by rfl) ?_); clear hL; intro wq hL))
      have hN : Loc w NoM _ [row encN w.heap.size 58 (.slice ua L1.length uc) L1, nest w00 F1 New, nest w00 F L, row encK w.heap.size 46 (.slice none 0 0) [], var g5 _ _, var g4 _ _, var g3 _ _, var g2 _ _] := hL.sub (by repeat (first | exact List.nil_sublist _ | apply List.Sublist.cons_cons | apply List.Sublist.cons))
      replace hN := hN.nestJoin (L' := L1) HM1.out
      go_roundw
      case rel => exact ⟨k + 1, ⟨ua, _, uc⟩, _, L1, by omega, by go_num, Lib.hid (HD1.out.trans HST.out.symm), hN⟩
      case measure => simp [intOf]; omega
    · obtain rfl : k = ns.length := by omega
      rw [List.take_length, List.nil_append] at HD
      obtain ⟨sn, hsn⟩ : ∃ q, q = s := ⟨_, rfl⟩
      subst hsn
      obtain ⟨LN, hln⟩ : ∃ q, q = L := ⟨_, rfl⟩
      subst hln
      clear hlt hk
      go_wp2_with (first | ((with_reducible refine qB rfl rfl ?_); (refine lC rfl hL rfl rfl HasV.mem (by rfl) ?_)))
      go_loopw [36] (fun i wr => ∃ (k : Nat) (s : Sl) (F : Nat → Prop) (L : List Nd), k ≤ ms.length ∧ i = .int .i64 k ∧ Hid (L.map (·.d) = Stab.rfold InoD.lt InoD.norm InoD.one ((ns ++ ms.take k).map (·.d))) ∧ Loc w NoM wr [row encN w.heap.size 58 s.val L, nest w00 F L, row encK w.heap.size 46 (.slice none 0 0) [], var g5 [.int .i64 jv.a0, .int .i64 jv.a1, .int .i64 jv.a2, .int .i64 jv.a3, .int .i64 jv.a4, .int .i64 jv.a5, .int .i64 jv.a6, .int .i64 jv.a7, .slice s.a s.n s.c, .slice none 0 0] 27, var g4 [.int .i64 0, .int .i64 0, .int .i64 0, .int .i64 0, .int .i64 0, .int .i64 0, .int .i64 0, .int .i64 0, .slice none 0 0, .slice none 0 0] 27, var g3 [.int .i64 tv.a0, .int .i64 tv.a1, .int .i64 tv.a2, .int .i64 tv.a3, .int .i64 tv.a4, .int .i64 tv.a5, .int .i64 tv.a6, .int .i64 tv.a7, .slice b1 ms.length e1, .slice b2 el.length e2] 27, var g2 [.int .i64 sv.a0, .int .i64 sv.a1, .int .i64 sv.a2, .int .i64 sv.a3, .int .i64 sv.a4, .int .i64 sv.a5, .int .i64 sv.a6, .int .i64 sv.a7, .slice a1 ns.length c1, .slice a2 dl.length c2] 27]) (fun i _ => ms.length - (intOf i).toNat)
      case atStart => exact ⟨0, sn, F, LN, by omega, rfl, by rw [List.take_zero, List.append_nil]; exact HD, hL⟩
      case round =>
        clear hL
        obtain ⟨k, s, F, L, hk, rfl, HD, hL⟩ := hrel
        by_cases hlt : k < ms.length
        · obtain ⟨g, off, rfl, hr⟩ := hpb k hlt
          have HMP := Lib.hid (List.getElem_mem hlt)
          have hbn : ms.length ≤ 1000000 := by have := HN.out; omega
          have HST := Lib.hid (nodes_step ns ms k hlt)
          have HPL := Lib.hid (nodes_partL (N := 10000000) (P := ns) (l := ms) (k := k) HD.out HBO.out HBN.out)
          have HPZ := Lib.hid (nodes_partZ (P := ns) (l := ms) (k := k) HD.out HZO.out)
          have HPN := Lib.hid (nodes_partN (N := 1000000) (P := ns) (l := ms) (k := k) HD.out HN.out)
          have HEL := Lib.hid (HBO.out _ (List.mem_append.2 (.inr HMP.out)))
          have HEZ := Lib.hid (HZO.out _ (List.mem_append.2 (.inr HMP.out)))
          have HEO := Lib.hid (HTO.out _ HMP.out)
          have hrW0 : World.rangeAt _ g (off + k * 13) (Ino.cells ms[k].s) := range_below hr hL.below
          clear hr
          rw [← HD.out] at HST
          clear HD
          generalize ms[k] = n at *
          have hrW : World.rangeAt _ g (off + k * 13) [.int .i64 n.s.hd.id.boot, .int .i64 n.s.hd.id.n, .int .i64 n.s.hd.kind, .string n.s.hd.text, .int .i64 n.s.hd.attr.at_.boot, .int .i64 n.s.hd.attr.at_.n, .int .i64 n.s.hd.attr.mode, .int .u64 n.s.hd.attr.time, .int .i64 n.s.hd.size.at_.boot, .int .i64 n.s.hd.size.at_.n, .int .i64 n.s.hd.size.n, .slice n.s.p.a n.s.p.n n.s.p.c, .slice n.s.x.a n.s.x.n n.s.x.c] := hrW0
          clear hrW0
          go_wp2_with (first
            | ((with_reducible refine qF rfl rfl ?_); refine lL rfl rfl rfl rfl hlt ?_) | ((with_reducible refine gate (N := 39) rfl ?_); refine lK rfl rfl rfl hrW (by rfl) ?_) | ((with_reducible refine gate (N := 9) rfl ?_); (refine lI rfl hL rfl cy ?_; clear hL; intro g9 w9 hL))
            | (go_at_call 40; have hq := ref11_node1 (.slice s.a s.n s.c) L n.s n.d _ w00 (hL.own (E := encN) (base := w.heap.size) (e := 58) (v := s.val) (xs := L) mx).read (hL.nested (w00 := w00) (F := F) (L := L) hb00 mx) (HEO.out.below hL.below) HPZ.out HEZ.out (fun n' hn' => by have h1 := HPL.out n' hn'; have h2 := HEL.out; have h3 := HB0.out; omega) (by have h2 := HEL.out; have h3 := HB0.out; omega) (Nat.le_trans HPN.out (by decide)); (refine hq.mono ?_); rintro e w5 ⟨u, rfl, F1, New, L1, hd1, hm1, hL5⟩; clear hq; obtain ⟨ua, uc, rfl, -⟩ := R_elem (hL5.own (.head _)).read; have HD1 := Lib.hid hd1; have HM1 := Lib.hid hm1; replace hL := hL.takeAll (hL5.weakRow hL.size); simp only [List.cons_append, List.nil_append] at hL; clear hL5 hd1 hm1)
            | ((with_reducible refine qB rfl rfl ?_); (first | (refine lC rfl hL rfl rfl HasV.mem (by rfl) ?_) | (refine lA rfl hL rfl rfl HasV.mem (by rfl) ?_))) | ((with_reducible refine qC rfl rfl ?_); (refine lH rfl hL rfl rfl rfl cy (by rfl) ?_); clear hL; intro wq hL))
          have hN : Loc w NoM _ [row encN w.heap.size 58 (.slice ua L1.length uc) L1, nest w00 F1 New, nest w00 F L, row encK w.heap.size 46 (.slice none 0 0) [], var g5 _ _, var g4 _ _, var g3 _ _, var g2 _ _] := hL.sub (by repeat (first | exact List.nil_sublist _ | apply List.Sublist.cons_cons | apply List.Sublist.cons))
          replace hN := hN.nestJoin (L' := L1) HM1.out
          go_roundw
          case rel => exact ⟨k + 1, ⟨ua, _, uc⟩, _, L1, by omega, by go_num, Lib.hid (HD1.out.trans HST.out.symm), hN⟩
          case measure => simp [intOf]; omega
        · obtain rfl : k = ms.length := by omega
          rw [List.take_length] at HD
          obtain ⟨sn, hsn⟩ : ∃ q, q = s := ⟨_, rfl⟩
          subst hsn
          obtain ⟨LN, hln⟩ : ∃ q, q = L := ⟨_, rfl⟩
          subst hln
          clear hlt hk
          go_wp2_with (first | ((with_reducible refine qB rfl rfl ?_); (refine lC rfl hL rfl rfl HasV.mem (by rfl) ?_)))
          have hP : Loc w NoM _ [row encK w.heap.size 46 (.slice none 0 0) [], nest w00 F LN, row encN w.heap.size 58 sn.val LN, var g5 [.int .i64 jv.a0, .int .i64 jv.a1, .int .i64 jv.a2, .int .i64 jv.a3, .int .i64 jv.a4, .int .i64 jv.a5, .int .i64 jv.a6, .int .i64 jv.a7, .slice sn.a sn.n sn.c, .slice none 0 0] 27, var g4 [.int .i64 0, .int .i64 0, .int .i64 0, .int .i64 0, .int .i64 0, .int .i64 0, .int .i64 0, .int .i64 0, .slice none 0 0, .slice none 0 0] 27, var g3 [.int .i64 tv.a0, .int .i64 tv.a1, .int .i64 tv.a2, .int .i64 tv.a3, .int .i64 tv.a4, .int .i64 tv.a5, .int .i64 tv.a6, .int .i64 tv.a7, .slice b1 ms.length e1, .slice b2 el.length e2] 27, var g2 [.int .i64 sv.a0, .int .i64 sv.a1, .int .i64 sv.a2, .int .i64 sv.a3, .int .i64 sv.a4, .int .i64 sv.a5, .int .i64 sv.a6, .int .i64 sv.a7, .slice a1 ns.length c1, .slice a2 dl.length c2] 27] := (hL.perm (List.perm_middle (l₁ := [_, _]) (l₂ := [_, _, _, _]))).perm ((List.Perm.swap _ _ _).cons _)
          go_loopw [49] (fun i wr => ∃ (k : Nat) (s : Sl), k ≤ dl.length ∧ i = .int .i64 k ∧ Loc w NoM wr [row encK w.heap.size 46 s.val (linksD (([] : List Lnk) ++ dl.take k)), nest w00 F LN, row encN w.heap.size 58 sn.val LN, var g5 [.int .i64 jv.a0, .int .i64 jv.a1, .int .i64 jv.a2, .int .i64 jv.a3, .int .i64 jv.a4, .int .i64 jv.a5, .int .i64 jv.a6, .int .i64 jv.a7, .slice sn.a sn.n sn.c, .slice s.a s.n s.c] 27, var g4 [.int .i64 0, .int .i64 0, .int .i64 0, .int .i64 0, .int .i64 0, .int .i64 0, .int .i64 0, .int .i64 0, .slice none 0 0, .slice none 0 0] 27, var g3 [.int .i64 tv.a0, .int .i64 tv.a1, .int .i64 tv.a2, .int .i64 tv.a3, .int .i64 tv.a4, .int .i64 tv.a5, .int .i64 tv.a6, .int .i64 tv.a7, .slice b1 ms.length e1, .slice b2 el.length e2] 27, var g2 [.int .i64 sv.a0, .int .i64 sv.a1, .int .i64 sv.a2, .int .i64 sv.a3, .int .i64 sv.a4, .int .i64 sv.a5, .int .i64 sv.a6, .int .i64 sv.a7, .slice a1 ns.length c1, .slice a2 dl.length c2] 27]) (fun i _ => dl.length - (intOf i).toNat)
          case atStart => exact ⟨0, ⟨none, 0, 0⟩, by omega, rfl, hP⟩
          case round =>
            clear hL hP
            obtain ⟨k, s, hk, rfl, hL⟩ := hrel
            by_cases hlt : k < dl.length
            · obtain ⟨g, off, rfl, hr⟩ := hxa k hlt
              have hzp := Lib.hid (ZL1.out _ (List.getElem_mem hlt))
              have HS := Lib.hid (links_step ([] : List Lnk) dl k hlt)
              have hbn : dl.length ≤ 100000000 := by have := HLN.out; omega
              have hln : (linksD (([] : List Lnk) ++ dl.take k)).length ≤ 100000000 := links_part (by have := HLN.out; (try simp only [List.length_nil]); omega)
              have hlz := Lib.hid (links_partZ (P := ([] : List Lnk)) (l := dl) (k := k) (by simp) ZL1.out)
              have hrW0 : World.rangeAt _ g (off + k * 25) (Lnk.cells dl[k]) := range_below hr hL.below
              clear hr
              generalize dl[k] = p at *
              generalize linksD (([] : List Lnk) ++ dl.take k) = L at *
              have hrW : World.rangeAt _ g (off + k * 25) [.int .i64 p.id.boot, .int .i64 p.id.n, .int .i64 p.node.boot, .int .i64 p.node.n, .int .i64 p.at_.boot, .int .i64 p.at_.n, .int .i64 p.parent.boot, .int .i64 p.parent.n, .string p.name, .int .i64 p.alive.a0, .int .i64 p.alive.a1, .int .i64 p.alive.a2, .int .i64 p.alive.a3, .int .i64 p.alive.a4, .int .i64 p.alive.a5, .int .i64 p.alive.a6, .int .i64 p.alive.a7, .int .i64 p.dead.a0, .int .i64 p.dead.a1, .int .i64 p.dead.a2, .int .i64 p.dead.a3, .int .i64 p.dead.a4, .int .i64 p.dead.a5, .int .i64 p.dead.a6, .int .i64 p.dead.a7] := hrW0
              clear hrW0
              go_wp2_with (first
                | ((with_reducible refine qF rfl rfl ?_); refine lL rfl rfl rfl rfl hlt ?_) | ((with_reducible refine gate (N := 52) rfl ?_); refine lK rfl rfl rfl hrW (by rfl) ?_) | ((with_reducible refine gate (N := 11) rfl ?_); (refine lI rfl hL rfl cy ?_; clear hL; intro g11 w11 hL))
                | (go_at_call 41; have hq := ref11_link (.slice s.a s.n s.c) L p _ (hL.own (E := encK) (base := w.heap.size) (e := 46) (v := s.val) (xs := L) mx).read hlz.out hzp.out (Nat.le_trans hln (by decide)); (refine hq.mono ?_); rintro e w5 ⟨u, rfl, hL5⟩; clear hq; obtain ⟨ua, uc, rfl, -⟩ := R_elem (hL5.own (.head _)).read; replace hL := hL.takeRow hL5; clear hL5)
                | ((with_reducible refine qB rfl rfl ?_); (first | (refine lC rfl hL rfl rfl HasV.mem (by rfl) ?_) | (refine lA rfl hL rfl rfl HasV.mem (by rfl) ?_))) | ((with_reducible refine qC rfl rfl ?_); (refine lH rfl hL rfl rfl rfl cy (by rfl) ?_); clear hL; intro wq hL))
              go_roundw
              case rel => exact ⟨k + 1, ⟨ua, _, uc⟩, by omega, by go_num, by rw [HS.out]; exact hL.sub (by repeat (first | exact List.nil_sublist _ | apply List.Sublist.cons_cons | apply List.Sublist.cons))⟩
              case measure => simp [intOf]; omega
            · obtain rfl : k = dl.length := by omega
              rw [List.take_length, List.nil_append] at hL
              obtain ⟨sk, hsk⟩ : ∃ q, q = s := ⟨_, rfl⟩
              subst hsk
              clear hlt hk
              go_wp2_with (first | ((with_reducible refine qB rfl rfl ?_); (refine lC rfl hL rfl rfl HasV.mem (by rfl) ?_)))
              go_loopw [62] (fun i wr => ∃ (k : Nat) (s : Sl), k ≤ el.length ∧ i = .int .i64 k ∧ Loc w NoM wr [row encK w.heap.size 46 s.val (linksD (dl ++ el.take k)), nest w00 F LN, row encN w.heap.size 58 sn.val LN, var g5 [.int .i64 jv.a0, .int .i64 jv.a1, .int .i64 jv.a2, .int .i64 jv.a3, .int .i64 jv.a4, .int .i64 jv.a5, .int .i64 jv.a6, .int .i64 jv.a7, .slice sn.a sn.n sn.c, .slice s.a s.n s.c] 27, var g4 [.int .i64 0, .int .i64 0, .int .i64 0, .int .i64 0, .int .i64 0, .int .i64 0, .int .i64 0, .int .i64 0, .slice none 0 0, .slice none 0 0] 27, var g3 [.int .i64 tv.a0, .int .i64 tv.a1, .int .i64 tv.a2, .int .i64 tv.a3, .int .i64 tv.a4, .int .i64 tv.a5, .int .i64 tv.a6, .int .i64 tv.a7, .slice b1 ms.length e1, .slice b2 el.length e2] 27, var g2 [.int .i64 sv.a0, .int .i64 sv.a1, .int .i64 sv.a2, .int .i64 sv.a3, .int .i64 sv.a4, .int .i64 sv.a5, .int .i64 sv.a6, .int .i64 sv.a7, .slice a1 ns.length c1, .slice a2 dl.length c2] 27]) (fun i _ => el.length - (intOf i).toNat)
              case atStart => exact ⟨0, sk, by omega, rfl, by rw [List.take_zero, List.append_nil]; exact hL⟩
              case round =>
                clear hL
                obtain ⟨k, s, hk, rfl, hL⟩ := hrel
                by_cases hlt : k < el.length
                · obtain ⟨g, off, rfl, hr⟩ := hxb k hlt
                  have hzp := Lib.hid (ZL2.out _ (List.getElem_mem hlt))
                  have HS := Lib.hid (links_step dl el k hlt)
                  have hbn : el.length ≤ 100000000 := by have := HLN.out; omega
                  have hln : (linksD (dl ++ el.take k)).length ≤ 100000000 := links_part (by have := HLN.out; (try simp only [List.length_nil]); omega)
                  have hlz := Lib.hid (links_partZ (P := dl) (l := el) (k := k) ZL1.out ZL2.out)
                  have hrW0 : World.rangeAt _ g (off + k * 25) (Lnk.cells el[k]) := range_below hr hL.below
                  clear hr
                  generalize el[k] = p at *
                  generalize linksD (dl ++ el.take k) = L at *
                  have hrW : World.rangeAt _ g (off + k * 25) [.int .i64 p.id.boot, .int .i64 p.id.n, .int .i64 p.node.boot, .int .i64 p.node.n, .int .i64 p.at_.boot, .int .i64 p.at_.n, .int .i64 p.parent.boot, .int .i64 p.parent.n, .string p.name, .int .i64 p.alive.a0, .int .i64 p.alive.a1, .int .i64 p.alive.a2, .int .i64 p.alive.a3, .int .i64 p.alive.a4, .int .i64 p.alive.a5, .int .i64 p.alive.a6, .int .i64 p.alive.a7, .int .i64 p.dead.a0, .int .i64 p.dead.a1, .int .i64 p.dead.a2, .int .i64 p.dead.a3, .int .i64 p.dead.a4, .int .i64 p.dead.a5, .int .i64 p.dead.a6, .int .i64 p.dead.a7] := hrW0
                  clear hrW0
                  go_wp2_with (first
                    | ((with_reducible refine qF rfl rfl ?_); refine lL rfl rfl rfl rfl hlt ?_) | ((with_reducible refine gate (N := 65) rfl ?_); refine lK rfl rfl rfl hrW (by rfl) ?_) | ((with_reducible refine gate (N := 13) rfl ?_); (refine lI rfl hL rfl cy ?_; clear hL; intro g13 w13 hL))
                    | (go_at_call 41; have hq := ref11_link (.slice s.a s.n s.c) L p _ (hL.own (E := encK) (base := w.heap.size) (e := 46) (v := s.val) (xs := L) mx).read hlz.out hzp.out (Nat.le_trans hln (by decide)); (refine hq.mono ?_); rintro e w5 ⟨u, rfl, hL5⟩; clear hq; obtain ⟨ua, uc, rfl, -⟩ := R_elem (hL5.own (.head _)).read; replace hL := hL.takeRow hL5; clear hL5)
                    | ((with_reducible refine qB rfl rfl ?_); (first | (refine lC rfl hL rfl rfl HasV.mem (by rfl) ?_) | (refine lA rfl hL rfl rfl HasV.mem (by rfl) ?_))) | ((with_reducible refine qC rfl rfl ?_); (refine lH rfl hL rfl rfl rfl cy (by rfl) ?_); clear hL; intro wq hL))
                  go_roundw
                  case rel => exact ⟨k + 1, ⟨ua, _, uc⟩, by omega, by go_num, by rw [HS.out]; exact hL.sub (by repeat (first | exact List.nil_sublist _ | apply List.Sublist.cons_cons | apply List.Sublist.cons))⟩
                  case measure => simp [intOf]; omega
                · obtain rfl : k = el.length := by omega
                  rw [List.take_length] at hL
                  obtain ⟨sk, hsk⟩ : ∃ q, q = s := ⟨_, rfl⟩
                  subst hsk
                  clear hlt hk
                  go_wp2_with (first | ((with_reducible refine qB rfl rfl ?_); (refine lA rfl hL rfl rfl HasV.mem (by rfl) ?_)) | ((with_reducible refine qC rfl rfl ?_); (refine lH rfl hL rfl rfl rfl cy (by rfl) ?_); clear hL; intro wq hL))
                  have hF : Loc w NoM _ [row encK w.heap.size 46 sk.val (linksD (dl ++ el)), nest w00 F LN, row encN w.heap.size 58 sn.val LN] := hL.sub (by repeat (first | exact List.nil_sublist _ | apply List.Sublist.cons_cons | apply List.Sublist.cons))
                  replace hF := hF.perm (((List.Perm.swap _ _ _).cons _).trans (((List.Perm.swap _ _ _)).trans (List.Perm.refl _)))
                  refine bodyPost_ret (res_cell rfl hL _ rfl HasV.mem (by rfl)) rfl ⟨⟨jv, sn, sk⟩, rfl, by rw [HSJ.out]; exact HJV.out, F, LN, by rw [HNJ.out]; exact HD.out, ?_⟩
                  rw [HLJ.out]
                  exact hF
theorem ref11_states (s t : Sta) (ds dt : StaD) (w : World) (hs : s.Ok w ds) (ht : t.Ok w dt) (B : Nat) (hB : ∀ n ∈ ds.nodes ++ dt.nodes, n.ps.length ≤ B ∧ n.xs.length ≤ B) (hn : ds.nodes.length + dt.nodes.length ≤ 1000000) (hBn : B * (ds.nodes.length + dt.nodes.length) ≤ 10000000) (hB0 : B ≤ 10000000) (hl : ds.links.length + dt.links.length ≤ 100000000) (hz : ∀ n ∈ ds.nodes ++ dt.nodes, n.Z) (hzl : ∀ l ∈ ds.links ++ dt.links, l.Z) :
    Calls Tryz.prog 12 #[.agg (Sta.cells s).toArray, .agg (Sta.cells t).toArray] w fun e w' => ∃ r : Sta, e = .returned (.agg (Sta.cells r).toArray) ∧ r.Ok w' (ds.join dt) ∧ Below w.heap.size w w' :=
  (ref11_states0 s t ds dt w w (.refl _ _) hs ht B hB hn hBn hB0 hl hz hzl).mono fun _ _ ⟨r, e, h1, F, L, h2, hL⟩ => ⟨r, e, ⟨h1, ⟨L, (hL.own (.head _)).read, hL.nested (.refl _ _) (.tail _ (.tail _ (.head _))), h2⟩, (hL.own (.tail _ (.head _))).read⟩, hL.below⟩
end Go.Proofs.YtebpacmhdkgfeaaGreat

namespace Go.Proofs.YtebpacmhdkgfeaaGreat
open Go.RowKit
theorem ino_shape (i : Ino) (d : InoD) (w : World) (h : i.Ok w d) : ∃ a c b e, i = ⟨d.hd, ⟨a, d.ps.length, c⟩, ⟨b, d.xs.length, e⟩⟩ := by
  obtain ⟨hd, p, x⟩ := i
  obtain ⟨ao, c, e1, -⟩ := R_elem h.ps
  obtain ⟨bo, c2, e2, -⟩ := R_elem h.xs
  have e0 : hd = d.hd := h.hd
  obtain ⟨pa, pn, pc⟩ := p
  obtain ⟨xa, xn, xc⟩ := x
  unfold Sl.val at e1 e2
  injection e1 with a1 a2 a3
  injection e2 with b1 b2 b3
  subst e0 a2 b2
  exact ⟨pa, pc, xa, xc, rfl⟩
set_option maxHeartbeats 8000000 in
theorem same_node (i j : Ino) (d : InoD) (w : World) (hi : i.Ok w d) (hj : j.Ok w d) :
    Calls Tryz.prog 38 #[.agg (Ino.cells i).toArray, .agg (Ino.cells j).toArray] w fun e w' => e = .returned (.bool true) ∧ Below w.heap.size w w' := by
  have hL := Loc.nil w NoM
  obtain ⟨a1, c1, b1, e1, rfl⟩ := ino_shape i d w hi
  obtain ⟨a2, c2, b2, e2, rfl⟩ := ino_shape j d w hj
  obtain ⟨hd, ps, xs⟩ := d
  have hm1 : ps.length ≤ 9223372036854775807 := R_max hi.ps
  have hm2 : xs.length ≤ 9223372036854775807 := R_max hi.xs
  obtain ⟨ao, c, e3, hp1⟩ := R_elem hi.ps
  have e3' : a1 = ao := by unfold Sl.val at e3; injection e3
  subst e3'
  obtain ⟨ao, c', e3, hp2⟩ := R_elem hj.ps
  have e3' : a2 = ao := by unfold Sl.val at e3; injection e3
  subst e3'
  obtain ⟨ao, c', e3, hx1⟩ := R_elem hi.xs
  have e3' : b1 = ao := by unfold Sl.val at e3; injection e3
  subst e3'
  obtain ⟨ao, c', e3, hx2⟩ := R_elem hj.xs
  have e3' : b2 = ao := by unfold Sl.val at e3; injection e3
  subst e3'
  clear e3 hi hj
  replace hp1 : ∀ (i : Nat) (hi : i < ps.length), ∃ g off, a1 = some ⟨g, off, none⟩ ∧ w.rangeAt g (off + i * 4) (Pce.cells ps[i]) := hp1
  replace hp2 : ∀ (i : Nat) (hi : i < ps.length), ∃ g off, a2 = some ⟨g, off, none⟩ ∧ w.rangeAt g (off + i * 4) (Pce.cells ps[i]) := hp2
  replace hx1 : ∀ (i : Nat) (hi : i < xs.length), ∃ g off, b1 = some ⟨g, off, none⟩ ∧ w.rangeAt g (off + i * 5) (Xat.cells xs[i]) := hx1
  replace hx2 : ∀ (i : Nat) (hi : i < xs.length), ∃ g off, b2 = some ⟨g, off, none⟩ ∧ w.rangeAt g (off + i * 5) (Xat.cells xs[i]) := hx2
  have n1 := stamp_ns hd.id
  have n2 := attr_ns hd.attr
  have n3 := size_ns hd.size
  unfold Atr.cells at n2
  unfold Siz.cells at n3
  show Calls _ _ #[.agg ([.int .i64 hd.id.boot, .int .i64 hd.id.n, .int .i64 hd.kind, .string hd.text, .int .i64 hd.attr.at_.boot, .int .i64 hd.attr.at_.n, .int .i64 hd.attr.mode, .int .u64 hd.attr.time, .int .i64 hd.size.at_.boot, .int .i64 hd.size.at_.n, .int .i64 hd.size.n, .slice a1 ps.length c1, .slice b1 xs.length e1] : List Value).toArray, .agg ([.int .i64 hd.id.boot, .int .i64 hd.id.n, .int .i64 hd.kind, .string hd.text, .int .i64 hd.attr.at_.boot, .int .i64 hd.attr.at_.n, .int .i64 hd.attr.mode, .int .u64 hd.attr.time, .int .i64 hd.size.at_.boot, .int .i64 hd.size.at_.n, .int .i64 hd.size.n, .slice a2 ps.length c2, .slice b2 xs.length e2] : List Value).toArray] w _
  go_enter Tryz.func38, Tryz.ntmps38
  go_wp2_with (first | ((with_reducible refine gate (N := 2) rfl ?_); (refine lJ rfl hL rfl rfl cy ?_; clear hL; intro g2 w2 hL)) | ((with_reducible refine gate (N := 3) rfl ?_); (refine lJ rfl hL rfl rfl cy ?_; clear hL; intro g3 w3 hL)) | ((with_reducible refine qB rfl rfl ?_); (first | (refine lC rfl hL rfl rfl HasV.mem (by rfl) ?_) | (refine lF rfl hL rfl rfl HasV.mem SegC.seg ?_))) | ((with_reducible refine qA rfl rfl ?_ ?_); (exact wz rfl rfl rfl (by with_reducible rfl)); (first | (refine lD (wz rfl rfl rfl rfl) hL rfl rfl HasV.mem (by rfl) ?_) | (refine lE (wz rfl rfl rfl rfl) hL rfl rfl HasV.mem SegC.seg ?_))))
  clear n1 n2 n3
  go_loopw [61] (fun i wr => ∃ k : Nat, k ≤ ps.length ∧ i = .int .i64 k ∧ Loc w NoM wr [var g3 [.int .i64 hd.id.boot, .int .i64 hd.id.n, .int .i64 hd.kind, .string hd.text, .int .i64 hd.attr.at_.boot, .int .i64 hd.attr.at_.n, .int .i64 hd.attr.mode, .int .u64 hd.attr.time, .int .i64 hd.size.at_.boot, .int .i64 hd.size.at_.n, .int .i64 hd.size.n, .slice a2 ps.length c2, .slice b2 xs.length e2] 58, var g2 [.int .i64 hd.id.boot, .int .i64 hd.id.n, .int .i64 hd.kind, .string hd.text, .int .i64 hd.attr.at_.boot, .int .i64 hd.attr.at_.n, .int .i64 hd.attr.mode, .int .u64 hd.attr.time, .int .i64 hd.size.at_.boot, .int .i64 hd.size.at_.n, .int .i64 hd.size.n, .slice a1 ps.length c1, .slice b1 xs.length e1] 58]) (fun i _ => ps.length - (intOf i).toNat)
  case atStart => exact ⟨0, by omega, rfl, hL⟩
  case round =>
    clear hL
    obtain ⟨k, hk, rfl, hL⟩ := hrel
    by_cases hlt : k < ps.length
    · obtain ⟨q1, o1, rfl, r1⟩ := hp1 k hlt
      obtain ⟨q2, o2, rfl, r2⟩ := hp2 k hlt
      have hz1 : World.rangeAt _ q1 (o1 + k * 4) (Pce.cells ps[k]) := range_below r1 hL.below
      have hz2 : World.rangeAt _ q2 (o2 + k * 4) (Pce.cells ps[k]) := range_below r2 hL.below
      clear r1 r2
      have hne := piece_ns ps[k]
      generalize ps[k] = q at *
      unfold Pce.cells at hz1 hz2 hne
      go_wp2_with fail
      refine wp_region_ext (by kernel_rfl) (by kernel_rfl) ?_
      repeat (first
        | (go_big_quiet_want; (first | refine qH hL rfl rfl HasV.mem (by rfl) ?_ | refine qG hL rfl rfl HasV.mem (by rfl) ?_ | refine qI hL rfl rfl HasV.mem SegC.seg ?_); go_big_quiet_on; simp only [Act.put, zs, zt, zu])
        | (go_big_quiet_want; (first | refine quiet_index rfl rfl rfl hlt ?_ | refine quiet_loadR rfl rfl hz1 (by rfl) ?_ | refine quiet_loadR rfl rfl hz2 (by rfl) ?_); go_big_quiet_on; simp only [Act.put, zs, zt, zu])
        | go_big_quiet_step (fail))
      refine wpQuiet_nil ?_
      rintro _ ⟨⟨w2, hb2⟩, rfl⟩
      replace hL := hL.call hb2
      clear hb2
      go_wp2_with fail
      go_roundw
      case rel => exact ⟨k + 1, by omega, by go_num, hL⟩
      case measure => simp [intOf]; omega
    · obtain rfl : k = ps.length := by omega
      go_wp2_with (first | ((with_reducible refine qB rfl rfl ?_); (refine lC rfl hL rfl rfl HasV.mem (by rfl) ?_)))
      go_loopw [79] (fun i wr => ∃ k : Nat, k ≤ xs.length ∧ i = .int .i64 k ∧ Loc w NoM wr [var g3 [.int .i64 hd.id.boot, .int .i64 hd.id.n, .int .i64 hd.kind, .string hd.text, .int .i64 hd.attr.at_.boot, .int .i64 hd.attr.at_.n, .int .i64 hd.attr.mode, .int .u64 hd.attr.time, .int .i64 hd.size.at_.boot, .int .i64 hd.size.at_.n, .int .i64 hd.size.n, .slice a2 ps.length c2, .slice b2 xs.length e2] 58, var g2 [.int .i64 hd.id.boot, .int .i64 hd.id.n, .int .i64 hd.kind, .string hd.text, .int .i64 hd.attr.at_.boot, .int .i64 hd.attr.at_.n, .int .i64 hd.attr.mode, .int .u64 hd.attr.time, .int .i64 hd.size.at_.boot, .int .i64 hd.size.at_.n, .int .i64 hd.size.n, .slice a1 ps.length c1, .slice b1 xs.length e1] 58]) (fun i _ => xs.length - (intOf i).toNat)
      case atStart => exact ⟨0, by omega, rfl, hL⟩
      case round =>
        clear hL
        obtain ⟨k, hk, rfl, hL⟩ := hrel
        by_cases hlt : k < xs.length
        · obtain ⟨q1, o1, rfl, r1⟩ := hx1 k hlt
          obtain ⟨q2, o2, rfl, r2⟩ := hx2 k hlt
          have hz1 : World.rangeAt _ q1 (o1 + k * 5) (Xat.cells xs[k]) := range_below r1 hL.below
          have hz2 : World.rangeAt _ q2 (o2 + k * 5) (Xat.cells xs[k]) := range_below r2 hL.below
          clear r1 r2
          have hne := xattr_ns xs[k]
          generalize xs[k] = q at *
          unfold Xat.cells at hz1 hz2 hne
          go_wp2_with fail
          refine wp_region_ext (by kernel_rfl) (by kernel_rfl) ?_
          repeat (first
        | (go_big_quiet_want; (first | refine qH hL rfl rfl HasV.mem (by rfl) ?_ | refine qG hL rfl rfl HasV.mem (by rfl) ?_ | refine qI hL rfl rfl HasV.mem SegC.seg ?_); go_big_quiet_on; simp only [Act.put, zs, zt, zu])
            | (go_big_quiet_want; (first | refine quiet_index rfl rfl rfl hlt ?_ | refine quiet_loadR rfl rfl hz1 (by rfl) ?_ | refine quiet_loadR rfl rfl hz2 (by rfl) ?_); go_big_quiet_on; simp only [Act.put, zs, zt, zu])
            | go_big_quiet_step (fail))
          refine wpQuiet_nil ?_
          rintro _ ⟨⟨w2, hb2⟩, rfl⟩
          replace hL := hL.call hb2
          clear hb2
          go_wp2_with fail
          go_roundw
          case rel => exact ⟨k + 1, by omega, by go_num, hL⟩
          case measure => simp [intOf]; omega
        · obtain rfl : k = xs.length := by omega
          go_wp2_with fail
          go_ret
          exact ⟨rfl, hL.below⟩
end Go.Proofs.YtebpacmhdkgfeaaGreat

namespace Go.Proofs.YtebpacmhdkgfeaaGreat
open Go.RowKit
theorem node_ext {W : World} {e : Ext W} (i j : Ino) (d : InoD) (hi : i.Ok W d) (hj : j.Ok W d) : Calls Tryz.prog 38 #[.agg (Ino.cells i).toArray, .agg (Ino.cells j).toArray] e.w fun en w'' => en = .returned (.bool true) ∧ ∃ x : Ext W, w'' = x.w :=
  calls_ext (same_node i j d _ (hi.below e.ok) (hj.below e.ok))
set_option maxHeartbeats 8000000 in
theorem same_state (s t : Sta) (d : StaD) (w : World) (hs : s.Ok w d) (ht : t.Ok w d) :
    Calls Tryz.prog 11 #[.agg (Sta.cells s).toArray, .agg (Sta.cells t).toArray] w fun e w' => e = .returned (.bool true) ∧ Below w.heap.size w w' := by
  have hL := Loc.nil w NoM
  obtain ⟨ns1, hn1, ho1, hd1⟩ := hs.nodes
  obtain ⟨ns2, hn2, ho2, hd2⟩ := ht.nodes
  have hl1 : ns1.length = d.nodes.length := by rw [← hd1, List.length_map]
  have hl2 : ns2.length = d.nodes.length := by rw [← hd2, List.length_map]
  have hm1 : ns1.length ≤ 9223372036854775807 := R_max hn1
  have hm2 : d.links.length ≤ 9223372036854775807 := R_max hs.links
  have hsame : ∀ k (h1 : k < ns1.length) (h2 : k < ns2.length), ns1[k].d = ns2[k].d := fun k h1 h2 => by
    have e1 : (ns1.map (·.d))[k]? = (ns2.map (·.d))[k]? := by rw [hd1, hd2]
    simpa [h1, h2] using e1
  obtain ⟨a1, c1, e1, hp1⟩ := R_elem hn1
  obtain ⟨a2, c2, e2, hp2⟩ := R_elem hn2
  obtain ⟨b1, f1, e3, hx1⟩ := R_elem hs.links
  obtain ⟨b2, f2, e4, hx2⟩ := R_elem ht.links
  have he1 : s.seen = d.seen := hs.seen
  have he2 : t.seen = d.seen := ht.seen
  obtain ⟨sv, ⟨sa, sn, sc⟩, ⟨sb, sm, sf⟩⟩ := s
  obtain ⟨tv, ⟨ta, tn, tc⟩, ⟨tb, tm, tf⟩⟩ := t
  unfold Sl.val at e1 e2 e3 e4
  injection e1 with i1 i2 i3
  injection e2 with j1 j2 j3
  injection e3 with k1 k2 k3
  injection e4 with l1 l2 l3
  replace he1 : sv = d.seen := he1
  replace he2 : tv = d.seen := he2
  have hll : ns2.length = ns1.length := hl2.trans hl1.symm
  rw [hll] at j2
  subst i1 i2 i3 j1 j2 j3 k1 k2 k3 l1 l2 l3
  have HO1 := Lib.hid ho1
  have HO2 := Lib.hid ho2
  have HS := Lib.hid hsame
  have HLL := Lib.hid hll
  subst he1
  clear hs ht hn1 hn2 ho1 ho2 hd1 hd2 hsame hl1 hl2 hll
  have n1 := vec_ns d.seen
  rw [he2]
  clear he2
  generalize d.seen = v at *
  generalize d.links = ls at *
  replace hp1 : ∀ (i : Nat) (hi : i < ns1.length), ∃ g off, sa = some ⟨g, off, none⟩ ∧ w.rangeAt g (off + i * 13) (Ino.cells ns1[i].s) := hp1
  replace hp2 : ∀ (i : Nat) (hi : i < ns2.length), ∃ g off, ta = some ⟨g, off, none⟩ ∧ w.rangeAt g (off + i * 13) (Ino.cells ns2[i].s) := hp2
  replace hx1 : ∀ (i : Nat) (hi : i < ls.length), ∃ g off, sb = some ⟨g, off, none⟩ ∧ w.rangeAt g (off + i * 25) (Lnk.cells ls[i]) := hx1
  replace hx2 : ∀ (i : Nat) (hi : i < ls.length), ∃ g off, tb = some ⟨g, off, none⟩ ∧ w.rangeAt g (off + i * 25) (Lnk.cells ls[i]) := hx2
  unfold Sta.cells
  go_enter Tryz.func11, Tryz.ntmps11
  go_wp2_with (first | ((with_reducible refine gate (N := 2) rfl ?_); (refine lJ rfl hL rfl rfl cy ?_; clear hL; intro g2 w2 hL)) | ((with_reducible refine gate (N := 3) rfl ?_); (refine lJ rfl hL rfl rfl cy ?_; clear hL; intro g3 w3 hL)) | ((with_reducible refine qB rfl rfl ?_); (first | (refine lC rfl hL rfl rfl HasV.mem (by rfl) ?_) | (refine lF rfl hL rfl rfl HasV.mem SegC.seg ?_))) | ((with_reducible refine qA rfl rfl ?_ ?_); (exact wz rfl rfl rfl (by with_reducible rfl)); (refine lD (wz rfl rfl rfl rfl) hL rfl rfl HasV.mem (by rfl) ?_)))
  clear n1
  go_loopw [33] (fun i wr => ∃ k : Nat, k ≤ ns1.length ∧ i = .int .i64 k ∧ Loc w NoM wr [var g3 [.int .i64 v.a0, .int .i64 v.a1, .int .i64 v.a2, .int .i64 v.a3, .int .i64 v.a4, .int .i64 v.a5, .int .i64 v.a6, .int .i64 v.a7, .slice ta ns1.length tc, .slice tb ls.length tf] 27, var g2 [.int .i64 v.a0, .int .i64 v.a1, .int .i64 v.a2, .int .i64 v.a3, .int .i64 v.a4, .int .i64 v.a5, .int .i64 v.a6, .int .i64 v.a7, .slice sa ns1.length sc, .slice sb ls.length sf] 27]) (fun i _ => ns1.length - (intOf i).toNat)
  case atStart => exact ⟨0, by omega, rfl, hL⟩
  case round =>
    clear hL
    obtain ⟨k, hk, rfl, hL⟩ := hrel
    by_cases hlt : k < ns1.length
    · have hlt2 : k < ns2.length := by have := HLL.out; omega
      obtain ⟨q1, o1, rfl, r1⟩ := hp1 k hlt
      obtain ⟨q2, o2, rfl, r2⟩ := hp2 k hlt2
      have hz1 : World.rangeAt _ q1 (o1 + k * 13) (Ino.cells ns1[k].s) := range_below r1 hL.below
      have hz2 : World.rangeAt _ q2 (o2 + k * 13) (Ino.cells ns2[k].s) := range_below r2 hL.below
      clear r1 r2
      have hk1 := (HO1.out _ (List.getElem_mem hlt)).below hL.below
      have hk2 := (HO2.out _ (List.getElem_mem hlt2)).below hL.below
      rw [← HS.out k hlt hlt2] at hk2
      have HK1 := Lib.hid hk1
      have HK2 := Lib.hid hk2
      clear hk1 hk2
      generalize ns1[k].d = dd at *
      generalize ns1[k].s = x1 at *
      generalize ns2[k].s = x2 at *
      go_wp2_with fail
      refine wp_region_ext (by kernel_rfl) (by kernel_rfl) ?_
      repeat (first
        | (go_big_quiet_want; (first | refine qH hL rfl rfl HasV.mem (by rfl) ?_ | refine qG hL rfl rfl HasV.mem (by rfl) ?_ | refine qI hL rfl rfl HasV.mem SegC.seg ?_); go_big_quiet_on; simp only [Act.put, zs, zt, zu])
        | (go_big_quiet_want; (first | refine quiet_index rfl rfl rfl hlt ?_ | refine quiet_loadR (cs := Ino.cells x1) rfl rfl (range_below hz1 (Below.refl _ _)) (by rfl) ?_ | refine quiet_loadR (cs := Ino.cells x2) rfl rfl (range_below hz2 (Below.refl _ _)) (by rfl) ?_); go_big_quiet_on; simp only [Act.put, zs, zt, zu])
        | go_big_quiet_step (first
          | (go_at_call 38; with_reducible exact node_ext x1 x2 dd HK1.out HK2.out)))
      refine wpQuiet_nil ?_
      rintro _ ⟨⟨w2, hb2⟩, rfl⟩
      replace hL := hL.call hb2
      clear hb2
      go_wp2_with fail
      go_roundw
      case rel => exact ⟨k + 1, by omega, by go_num, hL⟩
      case measure => simp [intOf]; omega
    · obtain rfl : k = ns1.length := by omega
      go_wp2_with (first | ((with_reducible refine qB rfl rfl ?_); (refine lC rfl hL rfl rfl HasV.mem (by rfl) ?_)))
      go_loopw [52] (fun i wr => ∃ k : Nat, k ≤ ls.length ∧ i = .int .i64 k ∧ Loc w NoM wr [var g3 [.int .i64 v.a0, .int .i64 v.a1, .int .i64 v.a2, .int .i64 v.a3, .int .i64 v.a4, .int .i64 v.a5, .int .i64 v.a6, .int .i64 v.a7, .slice ta ns1.length tc, .slice tb ls.length tf] 27, var g2 [.int .i64 v.a0, .int .i64 v.a1, .int .i64 v.a2, .int .i64 v.a3, .int .i64 v.a4, .int .i64 v.a5, .int .i64 v.a6, .int .i64 v.a7, .slice sa ns1.length sc, .slice sb ls.length sf] 27]) (fun i _ => ls.length - (intOf i).toNat)
      case atStart => exact ⟨0, by omega, rfl, hL⟩
      case round =>
        clear hL
        obtain ⟨k, hk, rfl, hL⟩ := hrel
        by_cases hlt : k < ls.length
        · obtain ⟨q1, o1, rfl, r1⟩ := hx1 k hlt
          obtain ⟨q2, o2, rfl, r2⟩ := hx2 k hlt
          have hz1 : World.rangeAt _ q1 (o1 + k * 25) (Lnk.cells ls[k]) := range_below r1 hL.below
          have hz2 : World.rangeAt _ q2 (o2 + k * 25) (Lnk.cells ls[k]) := range_below r2 hL.below
          clear r1 r2
          have hne := link_ns ls[k]
          generalize ls[k] = q at *
          go_wp2_with fail
          refine wp_region_ext (by kernel_rfl) (by kernel_rfl) ?_
          repeat (first
            | (go_big_quiet_want; (first | refine qH hL rfl rfl HasV.mem (by rfl) ?_ | refine qG hL rfl rfl HasV.mem (by rfl) ?_ | refine qI hL rfl rfl HasV.mem SegC.seg ?_); go_big_quiet_on; simp only [Act.put, zs, zt, zu])
            | (go_big_quiet_want; (first | refine quiet_index rfl rfl rfl hlt ?_ | refine quiet_loadR (cs := Lnk.cells q) rfl rfl (range_below hz1 (Below.refl _ _)) (by rfl) ?_ | refine quiet_loadR (cs := Lnk.cells q) rfl rfl (range_below hz2 (Below.refl _ _)) (by rfl) ?_); go_big_quiet_on; simp only [Act.put, zs, zt, zu])
            | go_big_quiet_step (fail))
          refine wpQuiet_nil ?_
          rintro _ ⟨⟨w2, hb2⟩, rfl⟩
          replace hL := hL.call hb2
          clear hb2
          go_wp2_with fail
          go_roundw
          case rel => exact ⟨k + 1, by omega, by go_num, hL⟩
          case measure => simp [intOf]; omega
        · obtain rfl : k = ls.length := by omega
          go_wp2_with fail
          go_ret
          exact ⟨rfl, hL.below⟩
end Go.Proofs.YtebpacmhdkgfeaaGreat

namespace Go.Proofs.YtebpacmhdkgfeaaGreat
open Go.RowKit
section
variable {P : Program} {md : Region.Mode} {ops : Array Oper} {ol : List Oper} {o : Oper} {a : Act} {Q : Exit → Act → World → Prop} {S : World → Prop} {W w0 : World} {M : Nat → Prop} {l l' : List Item}
theorem heldThree {f i j k : Nat} {done : Array Bool} (r : Region.ready md ops done = [i, j, k]) (hi : wpOp P ops Q i (fun a' w' => S w' ∧ wpAnyH P md ops Q S f (done.setIfInBounds i true) a' w') a W)
    (hj : wpOp P ops Q j (fun a' w' => S w' ∧ wpAnyH P md ops Q S f (done.setIfInBounds j true) a' w') a W) (hk : wpOp P ops Q k (fun a' w' => S w' ∧ wpAnyH P md ops Q S f (done.setIfInBounds k true) a' w') a W) : wpAnyH P md ops Q S (f + 1) done a W :=
  wpAnyH_all r (by simp) fun x hx => by
    rcases List.mem_cons.1 hx with rfl | hx
    · exact hi
    · rcases List.mem_cons.1 hx with rfl | hx
      · exact hj
      · obtain rfl := List.mem_singleton.1 hx
        exact hk
theorem heldStoreAll {f i : Nat} {done : Array Bool} {ty : TypeId} {p x : Operand} {n g : Nat} {cs vs : List Value} {v : Value} {t : TypeId} [hn : SizeT P ty n] (hi : Nth ol i o) (r : Region.ready md ol.toArray done = [i]) (hg : o.guard = none) (hL : Loc w0 M W l) (ho : o.op = .store ty p x) (hp : a.eval p = .pointer (some ⟨g, 0, none⟩)) (hx : a.eval x = v)
    (hc : CellsOf v vs) [hs : SwapV g l vs cs t l'] (hl : vs.length = n) (hall : vs.length = cs.length) (H : ∀ w1, Loc w0 M w1 l' → S w1 ∧ wpAnyH P md ol.toArray Q S f (done.setIfInBounds i true) (a.put o.dst undef) w1) : wpAnyH P md ol.toArray Q S (f + 1) done a W := by
  obtain ⟨w1, h1, h2⟩ := run_storeL (P := P) (a := a) (o := o) hL ho hp hx hc hl hs.swp (SetAt.all hall)
  exact heldOne r (wpOp_skip hi.get hg h1 (H w1 h2))
end
theorem held4X {α β γ δ : Type} (I : α → β → γ → δ → World → Prop) {X : α → β → γ → δ → World → Prop} {G : Prop} (h : (∀ x y z u w, I x y z u w → X x y z u w) → G) (g : ∀ x y z u w, I x y z u w → X x y z u w) : G := h g
end Go.Proofs.YtebpacmhdkgfeaaGreat
