/- Texts of this seat's, what the claim needs of them. -/
import Derived.Test.YtlakomilichhnaaGreatDoorYOOo
import Derived.Test.YtlakomilichhnaaGreatDoorZPc
import Derived.Test.YtlakomilichhnaaGreatDoorYOOm
namespace Go.Proofs.YtlakomilichhnaaGreatDoor
set_option maxHeartbeats 6400000
set_option maxRecDepth 100000
open Go.RowKit
open Lib renaming hid→J,size_eq→Ak
open Option renaming none→A4,some→A2
open Rc renaming FldA→AV,Rd→BF,author→Gh,title→F4,year→DU
open RowKit renaming Below→A6
namespace Sr
theorem firstR1 {by_:Int}{lang:By}{x y:BF} (h:by_=1):firstR by_ lang x y=cmp lang (skip x.lang.data.toList (F4 x.fields)) (skip y.lang.data.toList (F4 y.fields)):=by unfold firstR;rw[if_pos h]
theorem firstR2 {by_:Int}{lang:By}{x y:BF} (h:by_=2):firstR by_ lang x y=cmp lang (Gh x.fields) (Gh y.fields):=by unfold firstR;rw[if_neg (by omega),if_pos h]
theorem firstR3 {by_:Int}{lang:By}{x y:BF} (h:by_=3):firstR by_ lang x y=(DU y.fields:Int) - (DU x.fields:Int):=by unfold firstR;rw[if_neg (by omega),if_neg (by omega),if_pos h]
theorem firstR0 {by_:Int}{lang:By}{x y:BF} (h1:by_≠1) (h2:by_≠2) (h3:by_≠3):firstR by_ lang x y=0:=by unfold firstR;rw[if_neg h1,if_neg h2,if_neg h3]
end Sr
theorem sr_titleR_c (r:BF) (a:Option Addr) (c:Nat) (w:World) (h:AV w a c r.fields) (hR:Sr.Rg r) :
  Calls Tryz.prog 111 #[.agg #[.int .i64 r.id,.int .i64 r.ver,.int .i64 r.kind,.string r.lang,.slice a r.fields.length c]] w fun e w'=>e=.returned (.string ⟨(F4 r.fields).toArray⟩)∧A6 w.heap.size w w':=by
 have:=r08_Title_c r.fields a c r.id r.ver r.kind r.lang w h hR.gd (Nat.le_trans hR.mod.len (by decide))
 rwa [Rc.titleR_eq hR.tag]at this
theorem sr_authorR_c (r:BF) (a:Option Addr) (c:Nat) (w:World) (h:AV w a c r.fields) (hR:Sr.Rg r) :
  Calls Tryz.prog 112 #[.agg #[.int .i64 r.id,.int .i64 r.ver,.int .i64 r.kind,.string r.lang,.slice a r.fields.length c]] w fun e w'=>e=.returned (.string ⟨(Gh r.fields).toArray⟩)∧A6 w.heap.size w w':=by
 have:=r08_Author_c r.fields a c r.id r.ver r.kind r.lang w h (Nat.le_trans hR.mod.len (by decide))
 rw[← Rc.authorR_eq hR.tag]
 exact this
theorem r22_Compare_c (by_:Int) (lang:ByteArray) (x y:BF) (xa ya:Option Addr) (xc yc:Nat) (w:World) (hx:AV w xa xc x.fields) (hy:AV w ya yc y.fields) (hRx:Sr.Rg x) (hRy:Sr.Rg y) :
  Calls Tryz.prog 52 #[.agg #[.int .i64 x.id,.int .i64 x.ver,.int .i64 x.kind,.string x.lang,.slice xa x.fields.length xc],.agg #[.int .i64 y.id,.int .i64 y.ver,.int .i64 y.kind,.string y.lang,.slice ya y.fields.length yc],.int .i64 by_,.string lang] w fun e w'=>e=.returned (.int .i64 (Sr.firstR by_ lang.data.toList x y))∧A6 w.heap.size w w':=by
 obtain⟨W,hW⟩:∃ W,(w.alloc (.cells #[.int .i64 x.id,.int .i64 x.ver,.int .i64 x.kind,.string x.lang,.slice xa x.fields.length xc] 51)).alloc (.cells #[.int .i64 y.id,.int .i64 y.ver,.int .i64 y.kind,.string y.lang,.slice ya y.fields.length yc] 51)=W:=⟨_,rfl⟩
 have hB:A6 w.heap.size w W:=by rw[← hW];exact (Tx.newb _ _).alloc (Tx.newb w _).size _
 have a0:W.cell? ⟨w.heap.size,0,A4⟩=A2 (.int .i64 x.id):=by rw[← hW];simp
 have a1:W.cell? ⟨w.heap.size,1,A4⟩=A2 (.int .i64 x.ver):=by rw[← hW];simp
 have a2:W.cell? ⟨w.heap.size,2,A4⟩=A2 (.int .i64 x.kind):=by rw[← hW];simp
 have a3:W.cell? ⟨w.heap.size,3,A4⟩=A2 (.string x.lang):=by rw[← hW];simp
 have a4:W.cell? ⟨w.heap.size,4,A4⟩=A2 (.slice xa x.fields.length xc):=by rw[← hW];simp
 have b0:W.cell? ⟨w.heap.size+1,0,A4⟩=A2 (.int .i64 y.id):=by rw[← hW];simp
 have b1:W.cell? ⟨w.heap.size+1,1,A4⟩=A2 (.int .i64 y.ver):=by rw[← hW];simp
 have b2:W.cell? ⟨w.heap.size+1,2,A4⟩=A2 (.int .i64 y.kind):=by rw[← hW];simp
 have b3:W.cell? ⟨w.heap.size+1,3,A4⟩=A2 (.string y.lang):=by rw[← hW];simp
 have b4:W.cell? ⟨w.heap.size+1,4,A4⟩=A2 (.slice ya y.fields.length yc):=by rw[← hW];simp
 obtain⟨F,hF⟩:∃ F,Sr.firstR by_ lang.data.toList x y=F:=⟨_,rfl⟩
 rw[hF]
 by_cases h1:by_=1
 ·rw[Sr.firstR1 h1]at hF
  have XL:=Sr.skip_len x.lang.data.toList (F4 x.fields)
  have YL:=Sr.skip_len y.lang.data.toList (F4 y.fields)
  have XV:=Sr.skip_valid (lang:=x.lang.data.toList) hRx.tv
  have YV:=Sr.skip_valid (lang:=y.lang.data.toList) hRy.tv
  have hxl:=hRx.tl
  have hyl:=hRy.tl
  have TX:∀ W',A6 W.heap.size W W'→_:=fun W' hb=>sr_titleR_c x xa xc W' ((hx.below hB).below hb) hRx
  have TY:∀ W',A6 W.heap.size W W'→_:=fun W' hb=>sr_titleR_c y ya yc W' ((hy.below hB).below hb) hRy
  obtain⟨M,hM⟩:∃ M:ByteArray,(⟨(F4 x.fields).toArray⟩:ByteArray)=M:=⟨_,rfl⟩
  obtain⟨N,hN⟩:∃ N:ByteArray,(⟨(F4 y.fields).toArray⟩:ByteArray)=N:=⟨_,rfl⟩
  have hMd:F4 x.fields=M.data.toList:=by rw[← hM]
  have hNd:F4 y.fields=N.data.toList:=by rw[← hN]
  rw[hM]at TX
  rw[hN]at TY
  rw[hMd]at hF XL XV hxl
  rw[hNd]at hF YL YV hyl
  rw[← Ak]at hxl hyl XL YL
  have SX:∀ W',_:=fun W'=>r02_Skip_c x.lang M W' hxl
  have SY:∀ W',_:=fun W'=>r02_Skip_c y.lang N W' hyl
  obtain⟨P,hP⟩:∃ P:ByteArray,(⟨(Sr.skip x.lang.data.toList M.data.toList).toArray⟩:ByteArray)=P:=⟨_,rfl⟩
  obtain⟨Q,hQ⟩:∃ Q:ByteArray,(⟨(Sr.skip y.lang.data.toList N.data.toList).toArray⟩:ByteArray)=Q:=⟨_,rfl⟩
  have hPd:Sr.skip x.lang.data.toList M.data.toList=P.data.toList:=by rw[← hP]
  have hQd:Sr.skip y.lang.data.toList N.data.toList=Q.data.toList:=by rw[← hQ]
  rw[hP]at SX
  rw[hQ]at SY
  rw[hPd]at XL XV
  rw[hQd]at YL YV
  rw[← Ak]at XL YL
  have CC:∀ W',_:=fun W'=>r02_Compare_c lang P Q W' (by omega) (by omega) XV YV
  rw[← hPd,← hQd,hF]at CC
  have HTX:=J TX
  have HTY:=J TY
  have HSX:=J SX
  have HSY:=J SY
  have HCC:=J CC
  subst h1
  clear TX TY SX SY CC hP hQ hPd hQd hM hN hMd hNd hF hx hy hRx hRy XL YL XV YV hxl hyl
  go_enter Tryz.func52,Tryz.ntmps52
  go_wp2
  clear hW
  go_region_held3 (fun w'=>A6 W.heap.size W w'∧w'.cell? ⟨w.heap.size,0,A4⟩=A2 (.int .i64 x.id)∧w'.cell? ⟨w.heap.size,1,A4⟩=A2 (.int .i64 x.ver)∧w'.cell? ⟨w.heap.size,2,A4⟩=A2 (.int .i64 x.kind)∧w'.cell? ⟨w.heap.size,3,A4⟩=A2 (.string x.lang)∧w'.cell? ⟨w.heap.size,4,A4⟩=A2 (.slice xa x.fields.length xc)∧w'.cell? ⟨w.heap.size+1,0,A4⟩=A2 (.int .i64 y.id)∧w'.cell? ⟨w.heap.size+1,1,A4⟩=A2 (.int .i64 y.ver)∧w'.cell? ⟨w.heap.size+1,2,A4⟩=A2 (.int .i64 y.kind)∧w'.cell? ⟨w.heap.size+1,3,A4⟩=A2 (.string y.lang)∧w'.cell? ⟨w.heap.size+1,4,A4⟩=A2 (.slice ya y.fields.length yc))
   (first | exact⟨(Below.refl _ _).drew,a0,a1,a2,a3,a4,b0,b1,b2,b3,b4⟩ | (go_split_ands;exact⟨Tx.step ‹_› hbx,by repeat' first | exact cell_later hbx ‹_› | constructor⟩))
   (first
    |(go_split_ands;go_at_call 109;((with_reducible refine (HCC.out _).mono ?_);rintro e wx ⟨rfl,hbx⟩))
    |(go_split_ands;go_at_call 110;((with_reducible refine (HSX.out _).mono ?_);rintro e wx ⟨rfl,hbx⟩))
    |(go_split_ands;go_at_call 110;((with_reducible refine (HSY.out _).mono ?_);rintro e wx ⟨rfl,hbx⟩))
    |(go_split_ands;go_at_call 111;((with_reducible refine (HTX.out _ ‹_›).mono ?_);rintro e wx ⟨rfl,hbx⟩))
    |(go_split_ands;go_at_call 111;((with_reducible refine (HTY.out _ ‹_›).mono ?_);rintro e wx ⟨rfl,hbx⟩)))
  go_split_ands
  have hb9:A6 W.heap.size W wx:=by assumption
  go_wp2
  go_ret
  exact⟨rfl,Tx.step hB hb9⟩
 ·by_cases h2:by_=2
  ·rw[Sr.firstR2 h2]at hF
   obtain⟨P,hP⟩:∃ P:ByteArray,(⟨(Gh x.fields).toArray⟩:ByteArray)=P:=⟨_,rfl⟩
   obtain⟨Q,hQ⟩:∃ Q:ByteArray,(⟨(Gh y.fields).toArray⟩:ByteArray)=Q:=⟨_,rfl⟩
   have hPd:Gh x.fields=P.data.toList:=by rw[← hP]
   have hQd:Gh y.fields=Q.data.toList:=by rw[← hQ]
   have TX:∀ W',A6 W.heap.size W W'→_:=fun W' hb=>sr_authorR_c x xa xc W' ((hx.below hB).below hb) hRx
   have TY:∀ W',A6 W.heap.size W W'→_:=fun W' hb=>sr_authorR_c y ya yc W' ((hy.below hB).below hb) hRy
   rw[hP]at TX
   rw[hQ]at TY
   have CC:∀ W',_:=fun W'=>r02_Compare_c lang P Q W' (by rw[Ak,← hPd];exact hRx.al) (by rw[Ak,← hQd];exact hRy.al) (by rw[← hPd];exact hRx.av) (by rw[← hQd];exact hRy.av)
   rw[← hPd,← hQd,hF]at CC
   have HTX:=J TX
   have HTY:=J TY
   have HCC:=J CC
   subst h2
   clear TX TY CC hP hQ hPd hQd hF hx hy hRx hRy h1
   go_enter Tryz.func52,Tryz.ntmps52
   go_wp2
   clear hW
   go_region_held3 (fun w'=>A6 W.heap.size W w'∧w'.cell? ⟨w.heap.size,0,A4⟩=A2 (.int .i64 x.id)∧w'.cell? ⟨w.heap.size,1,A4⟩=A2 (.int .i64 x.ver)∧w'.cell? ⟨w.heap.size,2,A4⟩=A2 (.int .i64 x.kind)∧w'.cell? ⟨w.heap.size,3,A4⟩=A2 (.string x.lang)∧w'.cell? ⟨w.heap.size,4,A4⟩=A2 (.slice xa x.fields.length xc)∧w'.cell? ⟨w.heap.size+1,0,A4⟩=A2 (.int .i64 y.id)∧w'.cell? ⟨w.heap.size+1,1,A4⟩=A2 (.int .i64 y.ver)∧w'.cell? ⟨w.heap.size+1,2,A4⟩=A2 (.int .i64 y.kind)∧w'.cell? ⟨w.heap.size+1,3,A4⟩=A2 (.string y.lang)∧w'.cell? ⟨w.heap.size+1,4,A4⟩=A2 (.slice ya y.fields.length yc))
    (first | exact⟨(Below.refl _ _).drew,a0,a1,a2,a3,a4,b0,b1,b2,b3,b4⟩ | (go_split_ands;exact⟨Tx.step ‹_› hbx,by repeat' first | exact cell_later hbx ‹_› | constructor⟩))
    (first
     |(go_split_ands;go_at_call 109;((with_reducible refine (HCC.out _).mono ?_);rintro e wx ⟨rfl,hbx⟩))
     |(go_split_ands;go_at_call 112;((with_reducible refine (HTX.out _ ‹_›).mono ?_);rintro e wx ⟨rfl,hbx⟩))
     |(go_split_ands;go_at_call 112;((with_reducible refine (HTY.out _ ‹_›).mono ?_);rintro e wx ⟨rfl,hbx⟩)))
   go_split_ands
   have hb9:A6 W.heap.size W wx:=by assumption
   go_wp2
   go_ret
   exact⟨rfl,Tx.step hB hb9⟩
  ·by_cases h3:by_=3
   ·rw[Sr.firstR3 h3]at hF
    have TX:∀ W',A6 W.heap.size W W'→_:=fun W' hb=>r08_Year_c x.fields xa xc x.id x.ver x.kind x.lang W' ((hx.below hB).below hb) hRx.gd
    have TY:∀ W',A6 W.heap.size W W'→_:=fun W' hb=>r08_Year_c y.fields ya yc y.id y.ver y.kind y.lang W' ((hy.below hB).below hb) hRy.gd
    have hyx:=Ds.year_le x.fields
    have hyy:=Ds.year_le y.fields
    obtain⟨P,hP⟩:∃ P:Nat,DU x.fields=P:=⟨_,rfl⟩
    obtain⟨Q,hQ⟩:∃ Q:Nat,DU y.fields=Q:=⟨_,rfl⟩
    rw[hP]at TX hF hyx
    rw[hQ]at TY hF hyy
    have HTX:=J TX
    have HTY:=J TY
    have HF:=J hF
    subst h3
    clear TX TY hP hQ hF hx hy hRx hRy h1 h2
    go_enter Tryz.func52,Tryz.ntmps52
    go_wp2
    clear hW
    go_region_held3 (fun w'=>A6 W.heap.size W w'∧w'.cell? ⟨w.heap.size,0,A4⟩=A2 (.int .i64 x.id)∧w'.cell? ⟨w.heap.size,1,A4⟩=A2 (.int .i64 x.ver)∧w'.cell? ⟨w.heap.size,2,A4⟩=A2 (.int .i64 x.kind)∧w'.cell? ⟨w.heap.size,3,A4⟩=A2 (.string x.lang)∧w'.cell? ⟨w.heap.size,4,A4⟩=A2 (.slice xa x.fields.length xc)∧w'.cell? ⟨w.heap.size+1,0,A4⟩=A2 (.int .i64 y.id)∧w'.cell? ⟨w.heap.size+1,1,A4⟩=A2 (.int .i64 y.ver)∧w'.cell? ⟨w.heap.size+1,2,A4⟩=A2 (.int .i64 y.kind)∧w'.cell? ⟨w.heap.size+1,3,A4⟩=A2 (.string y.lang)∧w'.cell? ⟨w.heap.size+1,4,A4⟩=A2 (.slice ya y.fields.length yc))
     (first | exact⟨(Below.refl _ _).drew,a0,a1,a2,a3,a4,b0,b1,b2,b3,b4⟩ | (go_split_ands;exact⟨Tx.step ‹_› hbx,by repeat' first | exact cell_later hbx ‹_› | constructor⟩))
     (first
      |(go_split_ands;go_at_call 113;((with_reducible refine (HTX.out _ ‹_›).mono ?_);rintro e wx ⟨rfl,hbx⟩))
      |(go_split_ands;go_at_call 113;((with_reducible refine (HTY.out _ ‹_›).mono ?_);rintro e wx ⟨rfl,hbx⟩)))
    go_split_ands
    have hb9:A6 W.heap.size W wx:=by assumption
    go_wp2
    go_ret
    exact⟨Tx.ret1 (by rw[← HF.out];first | exact IntWalk.i64_in _ ⟨by omega,by omega⟩ | rfl | go_num),Tx.step hB hb9⟩
   ·rw[Sr.firstR0 h1 h2 h3]at hF
    subst hF
    have t1:(by_ == 1)=false:=beq_eq_false_iff_ne.2 h1
    have t2:(by_ == 2)=false:=beq_eq_false_iff_ne.2 h2
    have t3:(by_ == 3)=false:=beq_eq_false_iff_ne.2 h3
    clear hx hy hRx hRy h1 h2 h3
    go_enter Tryz.func52,Tryz.ntmps52
    go_wp2
    go_ret
    exact⟨rfl,hB⟩
end Go.Proofs.YtlakomilichhnaaGreatDoor
