/- Texts of this seat's, what the claim needs of them. -/
import Derived.Test.YtlakomilichhnaaGreatDoorYOPf
import Derived.Test.YtlakomilichhnaaGreatDoorZLawSrA
import Derived.Test.YtlakomilichhnaaGreatDoorYOSqT
namespace Go.Proofs.YtlakomilichhnaaGreatDoor
set_option maxHeartbeats 3200000
set_option maxRecDepth 100000
open Go.RowKit
open AllReadyH renaming cons→BU,nil→C6
open Go renaming cell_later→A0,wpAnyH_done→FZ,wpAnyH_ready→Ck,wp_region_held_drew→Dx
open Lib renaming hid→J
open Option renaming none→A4,some→A2
open Proofs.Tryz renaming func4→NI,prog→A3
open RowKit renaming Below→A6
open RowKit.Below renaming refl→Ab
open Tx renaming retb→Ay,step→A8
namespace Qr
end Qr
namespace Rc
end Rc
theorem order_law (l:List Rc.Rd) (la:Option Addr) (lc:Nat) (ids:List Int) (ia:Option Addr) (ic:Nat) (by_:Int) (lang:ByteArray) (w:World) (hG:G w) (h:Rc.RdA w la lc l) (hi:Ix.IA w ia ic ids) :
  Calls A3 4 #[.slice la l.length lc,.slice ia ids.length ic,.agg #[.int .i64 by_,.string lang]] w fun e w'=>e=.returned (.bool true)∧A6 w.heap.size w w':=by
 obtain⟨W,hW⟩:∃ W,w.alloc (.cells #[.int .i64 by_,.string lang] 39)=W:=⟨_,rfl⟩
 have hB:A6 w.heap.size w W:=by rw[← hW];exact Tx.newb _ _
 have c0:W.cell? ⟨w.heap.size,0,A4⟩=A2 (.int .i64 by_):=by rw[← hW];simp
 have c1:W.cell? ⟨w.heap.size,1,A4⟩=A2 (.string lang):=by rw[← hW];simp
 have HA:=J (sr_alive_c W (hG.below hB))
 have HG:=J (hG.below hB)
 have HL:=J (h.below hB)
 have HI:=J (hi.below hB)
 have HB:=J hB
 have HRT:Hid (∀ W',A6 W.heap.size W W'→Calls A3 11 #[.slice la l.length lc] W' fun e w'=>∃ b:Bool,e=.returned (.bool b)∧(b=true↔Sr.RightP l)∧A6 W'.heap.size W' w'):=J (fun W' h9=>r22_Right_c l la lc W' ((h.below hB).below h9))
 clear h hi hG hB
 by_cases hR:Sr.RightP l
 ·have RT:∀ W',A6 W.heap.size W W'→Calls A3 11 #[.slice la l.length lc] W' fun e w'=>e=.returned (.bool true)∧A6 W'.heap.size W' w':=fun W' h9=>(HRT.out W' h9).mono fun e w' ⟨b,he,hb,hq⟩=>⟨by rw[he,hb.2 hR],hq⟩
  have HRC:=J RT
  clear RT HRT
  by_cases hl:ids.length≤60
  ·have hli:¬ ((ids.length:Int) > 60):=by omega
   by_cases hg:lang.size≤100
   ·have hgi:¬ ((lang.size:Int) > 100):=by omega
    have PC:∀ W',A6 W.heap.size W W'→_:=fun W' h9=>search_Order_c l la lc ids ia ic by_ lang W' (HG.out.below h9) (HL.out.below h9) (HI.out.below h9) hR.rl.r hR.rl.n hR.rl.len
    have FC:∀ W',A6 W.heap.size W W'→_:=fun W' h9=>r22_Order_c l la lc ids ia ic by_ lang W' (HL.out.below h9) (HI.out.below h9) hR.rl.r hR.rl.n (by have:=hR.rl.len;omega)
    obtain⟨N,hN⟩:∃ N,Sr.order l ids by_ lang.data.toList=N:=⟨_,rfl⟩
    rw[hN]at PC FC
    have HPC:=J PC
    have HFC:=J FC
    clear PC FC hN hR hl hg
    go_enter NI,Tryz.ntmps4
    go_wp2_with (go_at_call 10;((with_reducible refine HA.out.mono ?_);rintro e w1 ⟨rfl,hb1⟩;clear hW;have HB1:=J (A8 HB.out hb1);have HW1:=J hb1;have zc0:=A0 hb1 c0;have zc1:=A0 hb1 c1;clear hb1 c0 c1))
    refine Dx (S:=(fun w'=>A6 w1.heap.size w1 w'∧w'.cell? ⟨w.heap.size,0,A4⟩=A2 (.int .i64 by_)∧w'.cell? ⟨w.heap.size,1,A4⟩=A2 (.string lang))) (by kernel_rfl) ?_ (fun hHeld=>?_)
    ·(first | exact⟨(Ab _ _).drew,zc0,zc1⟩ | (go_split_ands;exact⟨A8 ‹_› hbx,A0 hbx ‹_›,A0 hbx ‹_›⟩))
    refine tkY 0 (oi:=⟨A2 9,_,_,_,_,_⟩) (.slice la l.length lc) ?_
    refine tkP ?_
    refine Ck (rs:=[1]) (by kernel_rfl) (by simp) ?_
    refine BU (o:=⟨A2 10,_,_,_,_,_⟩) rfl (fun K hK=>?_) C6
    go_simp
    go_split_ands
    go_at_call 11
    refine (HRC.out _ (A8 HW1.out ‹_›)).mono ?_
    rintro e wx ⟨rfl,hbx⟩
    go_wp2_with fail
    refine hK.out _ _ ?_ (fun hHeld=>?_)
    ·(first | exact⟨(Ab _ _).drew,zc0,zc1⟩ | (go_split_ands;exact⟨A8 ‹_› hbx,A0 hbx ‹_›,A0 hbx ‹_›⟩))
    clear hK K
    try refine tkP ?_
    refine tkY 2 (oi:=⟨A2 11,_,_,_,_,_⟩) (.bool false) ?_
    refine tkP ?_
    refine tkY 3 (oi:=⟨A2 12,_,_,_,_,_⟩) (.bool false) ?_
    refine tkP ?_
    refine tkY 4 (oi:=⟨A2 13,_,_,_,_,_⟩) (.slice ia ids.length ic) ?_
    refine tkP ?_
    refine tkY 5 (oi:=⟨A2 14,_,_,_,_,_⟩) (.int .i64 ids.length) ?_
    refine tkP ?_
    refine tkY 6 (oi:=⟨A2 15,_,_,_,_,_⟩) (.bool false) ?_
    refine tkP ?_
    refine tkY 7 (oi:=⟨A2 16,_,_,_,_,_⟩) (.bool false) ?_
    refine tkP ?_
    refine tkY 8 (oi:=⟨A2 17,_,_,_,_,_⟩) (.bool false) ?_
    refine tkP ?_
    refine tkY 9 (oi:=⟨A2 18,_,_,_,_,_⟩) (.pointer (A2 ⟨w.heap.size,1,A4⟩)) ?_
    refine tkP ?_
    refine tkY 10 (oi:=⟨A2 19,_,_,_,_,_⟩) (.string lang) ?_
    refine tkP ?_
    refine tkY 11 (oi:=⟨A2 20,_,_,_,_,_⟩) (.int .i64 lang.size) ?_
    refine tkP ?_
    refine tkY 12 (oi:=⟨A2 21,_,_,_,_,_⟩) (.bool false) ?_
    refine tkP ?_
    refine tkY 13 (oi:=⟨A2 22,_,_,_,_,_⟩) (.bool false) ?_
    refine tkP ?_
    refine tkY 14 (oi:=⟨A2 23,_,_,_,_,_⟩) (.bool false) ?_
    refine tkP ?_
    refine tkY 15 (oi:=⟨A2 24,_,_,_,_,_⟩) (.slice la l.length lc) ?_
    refine tkP ?_
    refine tkY 16 (oi:=⟨A2 25,_,_,_,_,_⟩) (.slice ia ids.length ic) ?_
    refine tkP ?_
    refine tkY 17 (oi:=⟨A2 26,_,_,_,_,_⟩) (.pointer (A2 ⟨w.heap.size,0,A4⟩)) ?_
    refine tkP ?_
    refine tkY 18 (oi:=⟨A2 27,_,_,_,_,_⟩) (.int .i64 by_) ?_
    refine tkP ?_
    refine tkY 19 (oi:=⟨A2 28,_,_,_,_,_⟩) (.pointer (A2 ⟨w.heap.size,1,A4⟩)) ?_
    refine tkP ?_
    refine tkY 20 (oi:=⟨A2 29,_,_,_,_,_⟩) (.string lang) ?_
    refine tkP ?_
    refine tkY 22 (oi:=⟨A2 31,_,_,_,_,_⟩) (.slice la l.length lc) ?_
    refine tkP ?_
    refine tkY 23 (oi:=⟨A2 32,_,_,_,_,_⟩) (.slice ia ids.length ic) ?_
    refine tkP ?_
    refine tkY 24 (oi:=⟨A2 33,_,_,_,_,_⟩) (.pointer (A2 ⟨w.heap.size,0,A4⟩)) ?_
    refine tkP ?_
    refine tkY 25 (oi:=⟨A2 34,_,_,_,_,_⟩) (.int .i64 by_) ?_
    refine tkP ?_
    refine tkY 26 (oi:=⟨A2 35,_,_,_,_,_⟩) (.pointer (A2 ⟨w.heap.size,1,A4⟩)) ?_
    refine tkP ?_
    refine tkY 27 (oi:=⟨A2 36,_,_,_,_,_⟩) (.string lang) ?_
    refine tkP ?_
    refine Ck (rs:=[21]) (by kernel_rfl) (by simp) ?_
    refine BU (o:=⟨A2 30,_,_,_,_,_⟩) rfl (fun K hK=>?_) C6
    go_simp
    go_split_ands
    go_at_call 17
    refine (HPC.out _ (A8 HW1.out ‹_›)).mono ?_
    rintro e wx ⟨v1,rfl,ho,hbx⟩
    obtain⟨pa,pc,rfl,hia,_⟩:=Ix.IA.of_own ho rfl
    have HP0:=J hia
    clear ho hia
    go_wp2_with fail
    refine hK.out _ _ ?_ (fun hHeld=>?_)
    ·(first | exact⟨(Ab _ _).drew,zc0,zc1⟩ | (go_split_ands;exact⟨A8 ‹_› hbx,A0 hbx ‹_›,A0 hbx ‹_›⟩))
    clear hK K
    try refine tkP ?_
    refine Ck (rs:=[28]) (by kernel_rfl) (by simp) ?_
    refine BU (o:=⟨A2 37,_,_,_,_,_⟩) rfl (fun K hK=>?_) C6
    go_simp
    go_split_ands
    go_at_call 18
    refine (HFC.out _ (A8 HW1.out ‹_›)).mono ?_
    rintro e wx ⟨v2,rfl,ho,hbx⟩
    obtain⟨ra,rc,rfl,hia,_⟩:=Ix.IA.of_own ho rfl
    have HR0:=J hia
    have HP1:=J (HP0.out.below hbx)
    clear ho hia
    go_wp2_with fail
    refine hK.out _ _ ?_ (fun hHeld=>?_)
    ·(first | exact⟨(Ab _ _).drew,zc0,zc1⟩ | (go_split_ands;exact⟨A8 ‹_› hbx,A0 hbx ‹_›,A0 hbx ‹_›⟩))
    clear hK K
    try refine tkP ?_
    refine Ck (rs:=[29]) (by kernel_rfl) (by simp) ?_
    refine BU (o:=⟨A2 38,_,_,_,_,_⟩) rfl (fun K hK=>?_) C6
    go_simp
    go_split_ands
    go_at_call 14
    refine (ints_same_c N _ _ _ _ _ HP1.out HR0.out).mono ?_
    rintro e wx ⟨rfl,hbx⟩
    go_wp2_with fail
    refine hK.out _ _ ?_ (fun hHeld=>?_)
    ·(first | exact⟨(Ab _ _).drew,zc0,zc1⟩ | (go_split_ands;exact⟨A8 ‹_› hbx,A0 hbx ‹_›,A0 hbx ‹_›⟩))
    clear hK K
    try refine tkP ?_
    refine tkY 30 (oi:=⟨A2 39,_,_,_,_,_⟩) (.bool true) ?_
    refine tkP ?_
    refine tkY 31 (oi:=⟨A2 6,_,_,_,_,_⟩) (.bool true) ?_
    refine tkP ?_
    refine FZ (by kernel_rfl) ?_ _
    go_split_ands
    go_wp2
    go_ret
    exact⟨Ay (by simp),A8 HB1.out ‹_›⟩
   ·have hgi:((lang.size:Int) > 100):=by omega
    clear hR hl hg
    go_enter NI,Tryz.ntmps4
    go_wp2_with (go_at_call 10;((with_reducible refine HA.out.mono ?_);rintro e w1 ⟨rfl,hb1⟩;clear hW;have HB1:=J (A8 HB.out hb1);have HW1:=J hb1;have zc0:=A0 hb1 c0;have zc1:=A0 hb1 c1;clear hb1 c0 c1))
    refine Dx (S:=(fun w'=>A6 w1.heap.size w1 w'∧w'.cell? ⟨w.heap.size,0,A4⟩=A2 (.int .i64 by_)∧w'.cell? ⟨w.heap.size,1,A4⟩=A2 (.string lang))) (by kernel_rfl) ?_ (fun hHeld=>?_)
    ·(first | exact⟨(Ab _ _).drew,zc0,zc1⟩ | (go_split_ands;exact⟨A8 ‹_› hbx,A0 hbx ‹_›,A0 hbx ‹_›⟩))
    refine tkY 0 (oi:=⟨A2 9,_,_,_,_,_⟩) (.slice la l.length lc) ?_
    refine tkP ?_
    refine Ck (rs:=[1]) (by kernel_rfl) (by simp) ?_
    refine BU (o:=⟨A2 10,_,_,_,_,_⟩) rfl (fun K hK=>?_) C6
    go_simp
    go_split_ands
    go_at_call 11
    refine (HRC.out _ (A8 HW1.out ‹_›)).mono ?_
    rintro e wx ⟨rfl,hbx⟩
    go_wp2_with fail
    refine hK.out _ _ ?_ (fun hHeld=>?_)
    ·(first | exact⟨(Ab _ _).drew,zc0,zc1⟩ | (go_split_ands;exact⟨A8 ‹_› hbx,A0 hbx ‹_›,A0 hbx ‹_›⟩))
    clear hK K
    try refine tkP ?_
    refine tkY 2 (oi:=⟨A2 11,_,_,_,_,_⟩) (.bool false) ?_
    refine tkP ?_
    refine tkY 3 (oi:=⟨A2 12,_,_,_,_,_⟩) (.bool false) ?_
    refine tkP ?_
    refine tkY 4 (oi:=⟨A2 13,_,_,_,_,_⟩) (.slice ia ids.length ic) ?_
    refine tkP ?_
    refine tkY 5 (oi:=⟨A2 14,_,_,_,_,_⟩) (.int .i64 ids.length) ?_
    refine tkP ?_
    refine tkY 6 (oi:=⟨A2 15,_,_,_,_,_⟩) (.bool false) ?_
    refine tkP ?_
    refine tkY 7 (oi:=⟨A2 16,_,_,_,_,_⟩) (.bool false) ?_
    refine tkP ?_
    refine tkY 8 (oi:=⟨A2 17,_,_,_,_,_⟩) (.bool false) ?_
    refine tkP ?_
    refine tkY 9 (oi:=⟨A2 18,_,_,_,_,_⟩) (.pointer (A2 ⟨w.heap.size,1,A4⟩)) ?_
    refine tkP ?_
    refine tkY 10 (oi:=⟨A2 19,_,_,_,_,_⟩) (.string lang) ?_
    refine tkP ?_
    refine tkY 11 (oi:=⟨A2 20,_,_,_,_,_⟩) (.int .i64 lang.size) ?_
    refine tkP ?_
    refine tkY 12 (oi:=⟨A2 21,_,_,_,_,_⟩) (.bool true) ?_
    refine tkP ?_
    refine tkY 13 (oi:=⟨A2 22,_,_,_,_,_⟩) (.bool true) ?_
    refine tkP ?_
    refine tkY 14 (oi:=⟨A2 23,_,_,_,_,_⟩) (.bool true) ?_
    refine tkP ?_
    refine tkN 15 (oi:=⟨A2 24,_,_,_,_,_⟩) ?_
    refine tkP ?_
    refine tkN 16 (oi:=⟨A2 25,_,_,_,_,_⟩) ?_
    refine tkP ?_
    refine tkN 17 (oi:=⟨A2 26,_,_,_,_,_⟩) ?_
    refine tkP ?_
    refine tkN 18 (oi:=⟨A2 27,_,_,_,_,_⟩) ?_
    refine tkP ?_
    refine tkN 19 (oi:=⟨A2 28,_,_,_,_,_⟩) ?_
    refine tkP ?_
    refine tkN 20 (oi:=⟨A2 29,_,_,_,_,_⟩) ?_
    refine tkP ?_
    refine tkN 21 (oi:=⟨A2 30,_,_,_,_,_⟩) ?_
    refine tkP ?_
    refine tkN 22 (oi:=⟨A2 31,_,_,_,_,_⟩) ?_
    refine tkP ?_
    refine tkN 23 (oi:=⟨A2 32,_,_,_,_,_⟩) ?_
    refine tkP ?_
    refine tkN 24 (oi:=⟨A2 33,_,_,_,_,_⟩) ?_
    refine tkP ?_
    refine tkN 25 (oi:=⟨A2 34,_,_,_,_,_⟩) ?_
    refine tkP ?_
    refine tkN 26 (oi:=⟨A2 35,_,_,_,_,_⟩) ?_
    refine tkP ?_
    refine tkN 27 (oi:=⟨A2 36,_,_,_,_,_⟩) ?_
    refine tkP ?_
    refine tkN 28 (oi:=⟨A2 37,_,_,_,_,_⟩) ?_
    refine tkP ?_
    refine tkN 29 (oi:=⟨A2 38,_,_,_,_,_⟩) ?_
    refine tkP ?_
    refine tkY 30 (oi:=⟨A2 39,_,_,_,_,_⟩) (.bool true) ?_
    refine tkP ?_
    refine tkY 31 (oi:=⟨A2 6,_,_,_,_,_⟩) (.bool true) ?_
    refine tkP ?_
    refine FZ (by kernel_rfl) ?_ _
    go_split_ands
    go_wp2
    go_ret
    exact⟨Ay (by simp),A8 HB1.out ‹_›⟩
  ·have hli:((ids.length:Int) > 60):=by omega
   clear hR hl
   go_enter NI,Tryz.ntmps4
   go_wp2_with (go_at_call 10;((with_reducible refine HA.out.mono ?_);rintro e w1 ⟨rfl,hb1⟩;clear hW;have HB1:=J (A8 HB.out hb1);have HW1:=J hb1;have zc0:=A0 hb1 c0;have zc1:=A0 hb1 c1;clear hb1 c0 c1))
   refine Dx (S:=(fun w'=>A6 w1.heap.size w1 w'∧w'.cell? ⟨w.heap.size,0,A4⟩=A2 (.int .i64 by_)∧w'.cell? ⟨w.heap.size,1,A4⟩=A2 (.string lang))) (by kernel_rfl) ?_ (fun hHeld=>?_)
   ·(first | exact⟨(Ab _ _).drew,zc0,zc1⟩ | (go_split_ands;exact⟨A8 ‹_› hbx,A0 hbx ‹_›,A0 hbx ‹_›⟩))
   refine tkY 0 (oi:=⟨A2 9,_,_,_,_,_⟩) (.slice la l.length lc) ?_
   refine tkP ?_
   refine Ck (rs:=[1]) (by kernel_rfl) (by simp) ?_
   refine BU (o:=⟨A2 10,_,_,_,_,_⟩) rfl (fun K hK=>?_) C6
   go_simp
   go_split_ands
   go_at_call 11
   refine (HRC.out _ (A8 HW1.out ‹_›)).mono ?_
   rintro e wx ⟨rfl,hbx⟩
   go_wp2_with fail
   refine hK.out _ _ ?_ (fun hHeld=>?_)
   ·(first | exact⟨(Ab _ _).drew,zc0,zc1⟩ | (go_split_ands;exact⟨A8 ‹_› hbx,A0 hbx ‹_›,A0 hbx ‹_›⟩))
   clear hK K
   try refine tkP ?_
   refine tkY 2 (oi:=⟨A2 11,_,_,_,_,_⟩) (.bool false) ?_
   refine tkP ?_
   refine tkY 3 (oi:=⟨A2 12,_,_,_,_,_⟩) (.bool false) ?_
   refine tkP ?_
   refine tkY 4 (oi:=⟨A2 13,_,_,_,_,_⟩) (.slice ia ids.length ic) ?_
   refine tkP ?_
   refine tkY 5 (oi:=⟨A2 14,_,_,_,_,_⟩) (.int .i64 ids.length) ?_
   refine tkP ?_
   refine tkY 6 (oi:=⟨A2 15,_,_,_,_,_⟩) (.bool true) ?_
   refine tkP ?_
   refine tkY 7 (oi:=⟨A2 16,_,_,_,_,_⟩) (.bool true) ?_
   refine tkP ?_
   refine tkY 8 (oi:=⟨A2 17,_,_,_,_,_⟩) (.bool true) ?_
   refine tkP ?_
   refine tkN 9 (oi:=⟨A2 18,_,_,_,_,_⟩) ?_
   refine tkP ?_
   refine tkN 10 (oi:=⟨A2 19,_,_,_,_,_⟩) ?_
   refine tkP ?_
   refine tkN 11 (oi:=⟨A2 20,_,_,_,_,_⟩) ?_
   refine tkP ?_
   refine tkN 12 (oi:=⟨A2 21,_,_,_,_,_⟩) ?_
   refine tkP ?_
   refine tkY 13 (oi:=⟨A2 22,_,_,_,_,_⟩) (.bool true) ?_
   refine tkP ?_
   refine tkY 14 (oi:=⟨A2 23,_,_,_,_,_⟩) (.bool true) ?_
   refine tkP ?_
   refine tkN 15 (oi:=⟨A2 24,_,_,_,_,_⟩) ?_
   refine tkP ?_
   refine tkN 16 (oi:=⟨A2 25,_,_,_,_,_⟩) ?_
   refine tkP ?_
   refine tkN 17 (oi:=⟨A2 26,_,_,_,_,_⟩) ?_
   refine tkP ?_
   refine tkN 18 (oi:=⟨A2 27,_,_,_,_,_⟩) ?_
   refine tkP ?_
   refine tkN 19 (oi:=⟨A2 28,_,_,_,_,_⟩) ?_
   refine tkP ?_
   refine tkN 20 (oi:=⟨A2 29,_,_,_,_,_⟩) ?_
   refine tkP ?_
   refine tkN 21 (oi:=⟨A2 30,_,_,_,_,_⟩) ?_
   refine tkP ?_
   refine tkN 22 (oi:=⟨A2 31,_,_,_,_,_⟩) ?_
   refine tkP ?_
   refine tkN 23 (oi:=⟨A2 32,_,_,_,_,_⟩) ?_
   refine tkP ?_
   refine tkN 24 (oi:=⟨A2 33,_,_,_,_,_⟩) ?_
   refine tkP ?_
   refine tkN 25 (oi:=⟨A2 34,_,_,_,_,_⟩) ?_
   refine tkP ?_
   refine tkN 26 (oi:=⟨A2 35,_,_,_,_,_⟩) ?_
   refine tkP ?_
   refine tkN 27 (oi:=⟨A2 36,_,_,_,_,_⟩) ?_
   refine tkP ?_
   refine tkN 28 (oi:=⟨A2 37,_,_,_,_,_⟩) ?_
   refine tkP ?_
   refine tkN 29 (oi:=⟨A2 38,_,_,_,_,_⟩) ?_
   refine tkP ?_
   refine tkY 30 (oi:=⟨A2 39,_,_,_,_,_⟩) (.bool true) ?_
   refine tkP ?_
   refine tkY 31 (oi:=⟨A2 6,_,_,_,_,_⟩) (.bool true) ?_
   refine tkP ?_
   refine FZ (by kernel_rfl) ?_ _
   go_split_ands
   go_wp2
   go_ret
   exact⟨Ay (by simp),A8 HB1.out ‹_›⟩
 ·have RT:∀ W',A6 W.heap.size W W'→Calls A3 11 #[.slice la l.length lc] W' fun e w'=>e=.returned (.bool false)∧A6 W'.heap.size W' w':=fun W' h9=>(HRT.out W' h9).mono fun e w' ⟨b,he,hb,hq⟩=>⟨by rw[he,Bool.eq_false_iff.2 (fun h8=>hR (hb.1 h8))],hq⟩
  have HRC:=J RT
  clear RT HRT hR
  go_enter NI,Tryz.ntmps4
  go_wp2_with (go_at_call 10;((with_reducible refine HA.out.mono ?_);rintro e w1 ⟨rfl,hb1⟩;clear hW;have HB1:=J (A8 HB.out hb1);have HW1:=J hb1;have zc0:=A0 hb1 c0;have zc1:=A0 hb1 c1;clear hb1 c0 c1))
  refine Dx (S:=(fun w'=>A6 w1.heap.size w1 w'∧w'.cell? ⟨w.heap.size,0,A4⟩=A2 (.int .i64 by_)∧w'.cell? ⟨w.heap.size,1,A4⟩=A2 (.string lang))) (by kernel_rfl) ?_ (fun hHeld=>?_)
  ·(first | exact⟨(Ab _ _).drew,zc0,zc1⟩ | (go_split_ands;exact⟨A8 ‹_› hbx,A0 hbx ‹_›,A0 hbx ‹_›⟩))
  refine tkY 0 (oi:=⟨A2 9,_,_,_,_,_⟩) (.slice la l.length lc) ?_
  refine tkP ?_
  refine Ck (rs:=[1]) (by kernel_rfl) (by simp) ?_
  refine BU (o:=⟨A2 10,_,_,_,_,_⟩) rfl (fun K hK=>?_) C6
  go_simp
  go_split_ands
  go_at_call 11
  refine (HRC.out _ (A8 HW1.out ‹_›)).mono ?_
  rintro e wx ⟨rfl,hbx⟩
  go_wp2_with fail
  refine hK.out _ _ ?_ (fun hHeld=>?_)
  ·(first | exact⟨(Ab _ _).drew,zc0,zc1⟩ | (go_split_ands;exact⟨A8 ‹_› hbx,A0 hbx ‹_›,A0 hbx ‹_›⟩))
  clear hK K
  try refine tkP ?_
  refine tkY 2 (oi:=⟨A2 11,_,_,_,_,_⟩) (.bool true) ?_
  refine tkP ?_
  refine tkY 3 (oi:=⟨A2 12,_,_,_,_,_⟩) (.bool true) ?_
  refine tkP ?_
  refine tkN 4 (oi:=⟨A2 13,_,_,_,_,_⟩) ?_
  refine tkP ?_
  refine tkN 5 (oi:=⟨A2 14,_,_,_,_,_⟩) ?_
  refine tkP ?_
  refine tkN 6 (oi:=⟨A2 15,_,_,_,_,_⟩) ?_
  refine tkP ?_
  refine tkY 7 (oi:=⟨A2 16,_,_,_,_,_⟩) (.bool true) ?_
  refine tkP ?_
  refine tkY 8 (oi:=⟨A2 17,_,_,_,_,_⟩) (.bool true) ?_
  refine tkP ?_
  refine tkN 9 (oi:=⟨A2 18,_,_,_,_,_⟩) ?_
  refine tkP ?_
  refine tkN 10 (oi:=⟨A2 19,_,_,_,_,_⟩) ?_
  refine tkP ?_
  refine tkN 11 (oi:=⟨A2 20,_,_,_,_,_⟩) ?_
  refine tkP ?_
  refine tkN 12 (oi:=⟨A2 21,_,_,_,_,_⟩) ?_
  refine tkP ?_
  refine tkY 13 (oi:=⟨A2 22,_,_,_,_,_⟩) (.bool true) ?_
  refine tkP ?_
  refine tkY 14 (oi:=⟨A2 23,_,_,_,_,_⟩) (.bool true) ?_
  refine tkP ?_
  refine tkN 15 (oi:=⟨A2 24,_,_,_,_,_⟩) ?_
  refine tkP ?_
  refine tkN 16 (oi:=⟨A2 25,_,_,_,_,_⟩) ?_
  refine tkP ?_
  refine tkN 17 (oi:=⟨A2 26,_,_,_,_,_⟩) ?_
  refine tkP ?_
  refine tkN 18 (oi:=⟨A2 27,_,_,_,_,_⟩) ?_
  refine tkP ?_
  refine tkN 19 (oi:=⟨A2 28,_,_,_,_,_⟩) ?_
  refine tkP ?_
  refine tkN 20 (oi:=⟨A2 29,_,_,_,_,_⟩) ?_
  refine tkP ?_
  refine tkN 21 (oi:=⟨A2 30,_,_,_,_,_⟩) ?_
  refine tkP ?_
  refine tkN 22 (oi:=⟨A2 31,_,_,_,_,_⟩) ?_
  refine tkP ?_
  refine tkN 23 (oi:=⟨A2 32,_,_,_,_,_⟩) ?_
  refine tkP ?_
  refine tkN 24 (oi:=⟨A2 33,_,_,_,_,_⟩) ?_
  refine tkP ?_
  refine tkN 25 (oi:=⟨A2 34,_,_,_,_,_⟩) ?_
  refine tkP ?_
  refine tkN 26 (oi:=⟨A2 35,_,_,_,_,_⟩) ?_
  refine tkP ?_
  refine tkN 27 (oi:=⟨A2 36,_,_,_,_,_⟩) ?_
  refine tkP ?_
  refine tkN 28 (oi:=⟨A2 37,_,_,_,_,_⟩) ?_
  refine tkP ?_
  refine tkN 29 (oi:=⟨A2 38,_,_,_,_,_⟩) ?_
  refine tkP ?_
  refine tkY 30 (oi:=⟨A2 39,_,_,_,_,_⟩) (.bool true) ?_
  refine tkP ?_
  refine tkY 31 (oi:=⟨A2 6,_,_,_,_,_⟩) (.bool true) ?_
  refine tkP ?_
  refine FZ (by kernel_rfl) ?_ _
  go_split_ands
  go_wp2
  go_ret
  exact⟨Ay (by simp),A8 HB1.out ‹_›⟩
end Go.Proofs.YtlakomilichhnaaGreatDoor
