/- Texts of this seat's, what the claim needs of them. -/
import Derived.Test.YtlakomilichhnaaGreatDoorYMPb
import Derived.Test.YtlakomilichhnaaGreatDoorZPc
import Derived.Test.YtlakomilichhnaaGreatDoorYMPd
import Derived.Laws.EntriesVeiled
namespace Go.Proofs.YtlakomilichhnaaGreatDoor
set_option maxHeartbeats 3200000
set_option maxRecDepth 100000
open Go.RowKit
open Act renaming put→DI
open Go renaming Addr→Ao,Calls→Ac,Value→Ah,World→A9,callFunc→E5,cell_later→A0,wpAnyH_take→C0
open Instr renaming makeFunc→Cl
open Ix renaming terms→Cw,terms_len→FB
open Lib renaming hasPrefix→C7,hid→J
open List renaming any_eq_true→BM,getElem?_eq_getElem→A7,getElem?_eq_some_iff→Ai,getElem?_of_mem→C3,getElem_mem→Gn,getElem_ofFn→Mz,isPrefixOf_iff_prefix→Be,length→Cd,length_eq_one_iff→E2,length_map→At,mem_cons_of_mem→Bw,mem_cons_self→AY,mem_map→B3,mem_of_getElem?→Ag,setIfInBounds_toArray→AJ,set_cons_succ→B5,set_cons_zero→B4
open Nat renaming add_assoc→FR,add_zero→Bs,not_lt_zero→FI,reduceAdd→N7,zero_le→Ae,zero_mul→Ew
open Option renaming none→A4,some→A2
open Or renaming inl→F2,inr→G9
open Proofs.Tryz renaming func25→Fi,func26→Km,ntmps25→EX,ntmps26→JI,prog→A3
open Qr renaming KA→IR,Qy→BK
open Rc renaming FldA→AV,Rd→BF
open RowKit renaming Below→A6,intOf→Ad
open RowKit.Below renaming refl→Ab
open Sr renaming Rg→FH,matchB→BD
open Sr.RQ renaming new→Et
open Tx renaming below_drewN→Ba,step→A8
namespace Qr
end Qr
namespace Rc
end Rc
namespace Sr
open Rc hiding bys
open Qr
theorem own_xs {w:A9}{B:Nat}{v:Ah}{l:List Ix.By} (h:Ix.OwnT w B v l):∃ (xs:List ByteArray) (a:Option Ao) (c:Nat),xs.map (·.data.toList)=l∧v=.slice a xs.length c∧SLA w a c xs:=by
 obtain⟨a,c,e,hs⟩:=Ix.own_sla h
 refine⟨_,a,c,?_,by rw[e,At],hs⟩
 rw[List.map_map]
 conv=>rhs;rw[← List.map_id l]
 rfl
theorem match4 (fs:List Fl) (a b:Int):matchB fs (.mk 4 0 [] a b [])=yrB (year fs) a b:=rfl
theorem match5 (fs:List Fl) (ks:List Qy):matchB fs (.mk 5 0 [] 0 0 ks)=ks.all (matchB fs):=by unfold matchB;rw[ev,if_pos rfl,evAll_eq]
theorem match6 (fs:List Fl) (ks:List Qy):matchB fs (.mk 6 0 [] 0 0 ks)=ks.any (matchB fs):=by unfold matchB;rw[ev,if_neg (by decide),if_pos rfl,evAny_eq]
theorem match7 (fs:List Fl) (x y:Qy):matchB fs (.mk 7 0 [] 0 0 [x,y])=(matchB fs x&&!matchB fs y):=by
 unfold matchB
 rw[ev,if_neg (by decide),if_neg (by decide),if_pos rfl,evNot,evAny,evAny,Bool.or_false]
theorem match2 (fs:List Fl) (f:Int) (y:ByteArray):matchB fs (.mk 2 f [y] 0 0 [])=(Cw fs f).any fun t=>C7 t y.data.toList:=by
 unfold matchB
 rw[ev,if_neg (by decide),if_neg (by decide),if_neg (by decide)]
 rfl
theorem match1 (fs:List Fl) (f:Int) (ws:List ByteArray):matchB fs (.mk 1 f ws 0 0 [])=stands (Cw fs f) (ws.map (·.data.toList)):=by
 unfold matchB
 rw[ev,if_neg (by decide),if_neg (by decide),if_neg (by decide)]
 rfl
theorem match3 (fs:List Fl) (f:Int) (ws:List ByteArray):matchB fs (.mk 3 f ws 0 0 [])=stands (Cw fs f) (ws.map (·.data.toList)):=by
 unfold matchB
 rw[ev,if_neg (by decide),if_neg (by decide),if_neg (by decide)]
 rfl
theorem any_hit {xs:List ByteArray}{l:List By} (e:xs.map (·.data.toList)=l) {p:By→Bool}{k:Nat}{x:ByteArray} (hx:xs[k]?=A2 x) (h:p x.data.toList=true):l.any p=true:=by
 rw[← e,BM]
 exact⟨_,B3.2 ⟨x,Ag hx,rfl⟩,h⟩
theorem any_miss {xs:List ByteArray}{l:List By} (e:xs.map (·.data.toList)=l) {p:By→Bool} (h:∀ (k:Nat) (x:ByteArray),k<xs.length→xs[k]?=A2 x→p x.data.toList=false):l.any p=false:=by
 rw[← e,Bool.eq_false_iff,Ne,BM]
 rintro⟨t,ht,h1⟩
 obtain⟨x,hx,rfl⟩:=B3.1 ht
 obtain⟨k,hk⟩:=C3 hx
 rw[h k x (Ai.1 hk).1 hk]at h1
 cases h1
theorem st_hit {xs:List ByteArray}{l ws:List By} (e:xs.map (·.data.toList)=l) {k:Nat} (hk:k<xs.length) (h:ws.isPrefixOf ((xs.map (·.data.toList)).drop k)=true):stands l ws=true:=by
 rw[stands_iff,← e]
 exact⟨k,by rw[At];exact hk,Be.1 h⟩
theorem st_miss {xs:List ByteArray}{l ws:List By} (e:xs.map (·.data.toList)=l) (h:∀ k,k<xs.length→ws.isPrefixOf ((xs.map (·.data.toList)).drop k)=false):stands l ws=false:=by
 rw[Bool.eq_false_iff,Ne,stands_iff,← e]
 rintro⟨k,hk,h1⟩
 rw[At]at hk
 have:=h k hk
 rw[Be.2 h1]at this
 cases this
def MC (r:Rd) (fa:Option Ao) (fc B:Nat) (q:Qy):Prop:=∀ (cs:List Ah) (w:A9),QC B w q cs→AV w fa fc r.fields →
  Ac A3 26 #[.agg #[.int .i64 r.id,.int .i64 r.ver,.int .i64 r.kind,.string r.lang,.slice fa r.fields.length fc],.agg cs.toArray] w fun e w'=>e=.returned (.bool (matchB r.fields q))∧A6 w.heap.size w w'
end Sr
theorem r22_Match_4 (r:BF) (fa:Option Ao) (fc:Nat) (ya yb:Int) (sa:Option Ao) (sc:Nat) (ka:Option Ao) (kc:Nat) (w:A9) (h:AV w fa fc r.fields) (hR:FH r) :
  Ac A3 26 #[.agg #[.int .i64 r.id,.int .i64 r.ver,.int .i64 r.kind,.string r.lang,.slice fa r.fields.length fc],.agg #[.int .i64 4,.int .i64 0,.slice sa 0 sc,.int .i64 ya,.int .i64 yb,.slice ka 0 kc]] w fun e w'=>e=.returned (.bool (BD r.fields (.mk 4 0 [] ya yb [])))∧A6 w.heap.size w w':=by
 obtain⟨b,hb⟩:∃ b,BD r.fields (.mk 4 0 [] ya yb [])=b:=⟨_,rfl⟩
 rw[hb]
 obtain⟨W,hW⟩:∃ W,(w.alloc (.cells #[.int .i64 r.id,.int .i64 r.ver,.int .i64 r.kind,.string r.lang,.slice fa r.fields.length fc] 51)).alloc (.cells #[.int .i64 4,.int .i64 0,.slice sa 0 sc,.int .i64 ya,.int .i64 yb,.slice ka 0 kc] 29)=W:=⟨_,rfl⟩
 have hRQ:=Et w r.id r.ver r.kind r.lang (.slice fa r.fields.length fc) (.int .i64 4) (.int .i64 0) (.slice sa 0 sc) (.int .i64 ya) (.int .i64 yb) (.slice ka 0 kc) 51 29
 rw[hW]at hRQ
 obtain⟨hB,c0,c1,c2,c3,c4,d0,d1,d2,d3,d4,d5⟩:=hRQ
 have hFW:=h.below hB
 have YC:=r22_Years_c r.fields fa fc r.id r.ver r.kind r.lang 4 0 ya yb (.slice sa 0 sc) (.slice ka 0 kc) W hFW hR.gd
 rw[← Sr.match4,hb]at YC
 have HY:=J YC
 clear YC hb hFW h hR
 go_enter Km,JI
 go_wp2_with (go_at_call 69;((with_reducible refine HY.out.mono ?_);rintro e w1 ⟨rfl,hb1⟩))
 go_ret
 exact⟨rfl,A8 hB hb1⟩
theorem r22_Match_1 (r:BF) (fa:Option Ao) (fc:Nat) (f:Int) (ws:List ByteArray) (sa:Option Ao) (sc:Nat) (ka:Option Ao) (kc:Nat) (w:A9) (h:AV w fa fc r.fields) (hR:FH r) (hw:SLA w sa sc ws) (hn:ws.length≤1000000) :
  Ac A3 26 #[.agg #[.int .i64 r.id,.int .i64 r.ver,.int .i64 r.kind,.string r.lang,.slice fa r.fields.length fc],.agg #[.int .i64 1,.int .i64 f,.slice sa ws.length sc,.int .i64 0,.int .i64 0,.slice ka 0 kc]] w fun e w'=>e=.returned (.bool (BD r.fields (.mk 1 f ws 0 0 [])))∧A6 w.heap.size w w':=by
 obtain⟨b,hb⟩:∃ b,BD r.fields (.mk 1 f ws 0 0 [])=b:=⟨_,rfl⟩
 rw[hb]
 obtain⟨W,hW⟩:∃ W,(w.alloc (.cells #[.int .i64 r.id,.int .i64 r.ver,.int .i64 r.kind,.string r.lang,.slice fa r.fields.length fc] 51)).alloc (.cells #[.int .i64 1,.int .i64 f,.slice sa ws.length sc,.int .i64 0,.int .i64 0,.slice ka 0 kc] 29)=W:=⟨_,rfl⟩
 have hRQ:=Et w r.id r.ver r.kind r.lang (.slice fa r.fields.length fc) (.int .i64 1) (.int .i64 f) (.slice sa ws.length sc) (.int .i64 0) (.int .i64 0) (.slice ka 0 kc) 51 29
 rw[hW]at hRQ
 obtain⟨hB,c0,c1,c2,c3,c4,d0,d1,d2,d3,d4,d5⟩:=hRQ
 have hFW:=h.below hB
 rw[Sr.match1]at hb
 have TC:=r20_Terms_c r.fields fa fc r.id r.ver r.kind r.lang f W hFW hR.mod
 have hTl:=FB hR.mod f
 have hwW:=hw.below hB
 obtain⟨T,hT⟩:∃ T,Cw r.fields f=T:=⟨_,rfl⟩
 rw[hT]at hb TC hTl
 have HTC:=J TC
 have HM:=J hb
 have HWW:=J hwW
 have HTL:=J hTl
 clear TC hb hFW h hR hw hwW hT hTl
 go_enter Km,JI
 go_wp2_with (go_at_call 70;((with_reducible refine HTC.out.mono ?_);rintro e w1 ⟨v,rfl,ho,hb1⟩;obtain⟨xs,xa,xc,hxe,rfl,hS⟩:=Sr.own_xs ho;have HXS:=J hS;have HXE:=J hxe;clear hS hxe ho))
 have e0:=A0 hb1 d0
 have e2:=A0 hb1 d2
 have HW1:=J (HWW.out.below hb1)
 have hxl:xs.length≤100000000:=by have:=congrArg Cd HXE.out;have h2:=HTL.out;rw[At]at this;omega
 have hB1:=A8 hB hb1
 clear d0 d1 d2 d3 d4 d5 c0 c1 c2 c3 c4 hb1
 go_wp2
 go_loopw [8] (fun i wr=>∃ k:Nat,i=.int .i64 k∧k≤xs.length∧Hid (∀ j:Nat,j<k→(ws.map (·.data.toList)).isPrefixOf ((xs.map (·.data.toList)).drop j)=false)∧A6 w1.heap.size w1 wr) (fun i _=>xs.length - (Ad i).toNat)
 case atStart=>exact⟨0,by go_num,Ae _,J (by intro j;intros;omega),Ab _ _⟩
 case round =>
  obtain⟨k,rfl,hk,hI,hbr⟩:=hrel
  by_cases hlt:k<xs.length
  ·obtain⟨x,hx⟩:∃ x,xs[k]?=A2 x:=⟨_,A7 hlt⟩
   obtain⟨b1,o1,rfl,hb1,c1⟩:=(HXS.out.below hbr).get hx
   have f0:=A0 hbr e0
   have f2:=A0 hbr e2
   have CC:∀ W',A6 wr.heap.size wr W'→_:=fun W' h9=>r22_Row_c xs ws _ _ _ _ k W' ((HXS.out.below hbr).below h9) ((HW1.out.below hbr).below h9) (Nat.le_of_lt hlt) (by omega) (by omega)
   obtain⟨t,ht⟩:∃ t,(ws.map (·.data.toList)).isPrefixOf ((xs.map (·.data.toList)).drop k)=t:=⟨_,rfl⟩
   rw[ht]at CC
   have HC:=J CC
   have HXK:=J hx
   have HQ:=J ht
   have hki:(k:Int)<(xs.length:Int):=by omega
   clear CC hx ht
   cases t with
   | true =>
    have hbt:b=true:=by rw[← HM.out];exact Sr.st_hit HXE.out hlt HQ.out
    subst hbt
    go_wp2
    go_quiet ((go_at_call 72;exact Calls.quiet_of (HC.out _ (Ba (Ab _ _) _))))
    go_wp2
    go_ret
    exact⟨rfl,A8 hB1 (Ba hbr _)⟩
   | false =>
    go_wp2
    go_quiet ((go_at_call 72;exact Calls.quiet_of (HC.out _ (Ba (Ab _ _) _))))
    go_wp2
    go_roundw
    case rel=>exact⟨k+1,by go_num,hlt,J (fun j hj=>by
     rcases (by omega:j<k∨j=k) with h9 | h9
     ·exact hI.out j h9
     ·subst h9;exact HQ.out),Ba hbr _⟩
    case measure=>simp[Ad];omega
  ·obtain rfl:k=xs.length:=by omega
   have hbf:b=false:=by rw[← HM.out];exact Sr.st_miss HXE.out (fun k hk=>hI.out k hk)
   subst hbf
   go_wp2
   go_ret
   exact⟨rfl,A8 hB1 hbr⟩
theorem r22_Match_2 (r:BF) (fa:Option Ao) (fc:Nat) (f:Int) (y:ByteArray) (sa:Option Ao) (sc:Nat) (ka:Option Ao) (kc:Nat) (w:A9) (h:AV w fa fc r.fields) (hR:FH r) (hw:SLA w sa sc [y]) :
  Ac A3 26 #[.agg #[.int .i64 r.id,.int .i64 r.ver,.int .i64 r.kind,.string r.lang,.slice fa r.fields.length fc],.agg #[.int .i64 2,.int .i64 f,.slice sa 1 sc,.int .i64 0,.int .i64 0,.slice ka 0 kc]] w fun e w'=>e=.returned (.bool (BD r.fields (.mk 2 f [y] 0 0 [])))∧A6 w.heap.size w w':=by
 obtain⟨b,hb⟩:∃ b,BD r.fields (.mk 2 f [y] 0 0 [])=b:=⟨_,rfl⟩
 rw[hb]
 obtain⟨W,hW⟩:∃ W,(w.alloc (.cells #[.int .i64 r.id,.int .i64 r.ver,.int .i64 r.kind,.string r.lang,.slice fa r.fields.length fc] 51)).alloc (.cells #[.int .i64 2,.int .i64 f,.slice sa 1 sc,.int .i64 0,.int .i64 0,.slice ka 0 kc] 29)=W:=⟨_,rfl⟩
 have hRQ:=Et w r.id r.ver r.kind r.lang (.slice fa r.fields.length fc) (.int .i64 2) (.int .i64 f) (.slice sa 1 sc) (.int .i64 0) (.int .i64 0) (.slice ka 0 kc) 51 29
 rw[hW]at hRQ
 obtain⟨hB,c0,c1,c2,c3,c4,d0,d1,d2,d3,d4,d5⟩:=hRQ
 have hFW:=h.below hB
 rw[Sr.match2]at hb
 have TC:=r20_Terms_c r.fields fa fc r.id r.ver r.kind r.lang f W hFW hR.mod
 have hTl:=FB hR.mod f
 have hwW:=hw.below hB
 obtain⟨T,hT⟩:∃ T,Cw r.fields f=T:=⟨_,rfl⟩
 rw[hT]at hb TC hTl
 have HTC:=J TC
 have HM:=J hb
 have HWW:=J hwW
 have HTL:=J hTl
 clear TC hb hFW h hR hw hwW hT hTl
 go_enter Km,JI
 go_wp2_with (go_at_call 70;((with_reducible refine HTC.out.mono ?_);rintro e w1 ⟨v,rfl,ho,hb1⟩;obtain⟨xs,xa,xc,hxe,rfl,hS⟩:=Sr.own_xs ho;have HXS:=J hS;have HXE:=J hxe;clear hS hxe ho))
 have e0:=A0 hb1 d0
 have e2:=A0 hb1 d2
 have HW1:=J (HWW.out.below hb1)
 have hxl:xs.length≤100000000:=by have:=congrArg Cd HXE.out;have h2:=HTL.out;rw[At]at this;omega
 have hB1:=A8 hB hb1
 clear d0 d1 d2 d3 d4 d5 c0 c1 c2 c3 c4 hb1
 go_wp2
 go_loopw [8] (fun i wr=>∃ k:Nat,i=.int .i64 k∧k≤xs.length∧Hid (∀ (j:Nat) (x:ByteArray),j<k→xs[j]?=A2 x→C7 x.data.toList y.data.toList=false)∧A6 w1.heap.size w1 wr) (fun i _=>xs.length - (Ad i).toNat)
 case atStart=>exact⟨0,by go_num,Ae _,J (by intro j;intros;omega),Ab _ _⟩
 case round =>
  obtain⟨k,rfl,hk,hI,hbr⟩:=hrel
  by_cases hlt:k<xs.length
  ·obtain⟨x,hx⟩:∃ x,xs[k]?=A2 x:=⟨_,A7 hlt⟩
   obtain⟨b1,o1,rfl,hb1,c1⟩:=(HXS.out.below hbr).get hx
   have f0:=A0 hbr e0
   have f2:=A0 hbr e2
   obtain⟨b2,o2,rfl,hb2,c2⟩:=(HW1.out.below hbr).get (k:=0) (x:=y) rfl
   rw[Bs]at c2
   have CC:=fun W'=>Begins_c x y W'
   obtain⟨t,ht⟩:∃ t,C7 x.data.toList y.data.toList=t:=⟨_,rfl⟩
   rw[ht]at CC
   have HC:=J CC
   have HXK:=J hx
   have HQ:=J ht
   have hki:(k:Int)<(xs.length:Int):=by omega
   clear CC hx ht
   cases t with
   | true =>
    have hbt:b=true:=by rw[← HM.out];exact Sr.any_hit HXE.out HXK.out HQ.out
    subst hbt
    go_wp2
    go_quiet ((go_at_call 71;exact Calls.quiet_of_same ((HC.out _).mono fun _ _ ⟨h8,h9⟩=>⟨h8,h9.symm⟩)))
    go_wp2
    go_ret
    exact⟨rfl,A8 hB1 (Ba hbr _)⟩
   | false =>
    go_wp2
    go_quiet ((go_at_call 71;exact Calls.quiet_of_same ((HC.out _).mono fun _ _ ⟨h8,h9⟩=>⟨h8,h9.symm⟩)))
    go_wp2
    go_roundw
    case rel=>exact⟨k+1,by go_num,hlt,J (fun j z hj hz=>by
     rcases (by omega:j<k∨j=k) with h9 | h9
     ·exact hI.out j z h9 hz
     ·subst h9;rw[HXK.out]at hz;injection hz with hz;rw[← hz];exact HQ.out),Ba hbr _⟩
    case measure=>simp[Ad];omega
  ·obtain rfl:k=xs.length:=by omega
   have hbf:b=false:=by rw[← HM.out];exact Sr.any_miss HXE.out (fun k x hk hx=>hI.out k x hk hx)
   subst hbf
   go_wp2
   go_ret
   exact⟨rfl,A8 hB1 hbr⟩
theorem r22_Match_3 (r:BF) (fa:Option Ao) (fc:Nat) (f:Int) (ws:List ByteArray) (sa:Option Ao) (sc:Nat) (ka:Option Ao) (kc:Nat) (w:A9) (h:AV w fa fc r.fields) (hR:FH r) (hw:SLA w sa sc ws) (hn:ws.length≤1000000) :
  Ac A3 26 #[.agg #[.int .i64 r.id,.int .i64 r.ver,.int .i64 r.kind,.string r.lang,.slice fa r.fields.length fc],.agg #[.int .i64 3,.int .i64 f,.slice sa ws.length sc,.int .i64 0,.int .i64 0,.slice ka 0 kc]] w fun e w'=>e=.returned (.bool (BD r.fields (.mk 3 f ws 0 0 [])))∧A6 w.heap.size w w':=by
 obtain⟨b,hb⟩:∃ b,BD r.fields (.mk 3 f ws 0 0 [])=b:=⟨_,rfl⟩
 rw[hb]
 obtain⟨W,hW⟩:∃ W,(w.alloc (.cells #[.int .i64 r.id,.int .i64 r.ver,.int .i64 r.kind,.string r.lang,.slice fa r.fields.length fc] 51)).alloc (.cells #[.int .i64 3,.int .i64 f,.slice sa ws.length sc,.int .i64 0,.int .i64 0,.slice ka 0 kc] 29)=W:=⟨_,rfl⟩
 have hRQ:=Et w r.id r.ver r.kind r.lang (.slice fa r.fields.length fc) (.int .i64 3) (.int .i64 f) (.slice sa ws.length sc) (.int .i64 0) (.int .i64 0) (.slice ka 0 kc) 51 29
 rw[hW]at hRQ
 obtain⟨hB,c0,c1,c2,c3,c4,d0,d1,d2,d3,d4,d5⟩:=hRQ
 have hFW:=h.below hB
 rw[Sr.match3]at hb
 have TC:=r20_Terms_c r.fields fa fc r.id r.ver r.kind r.lang f W hFW hR.mod
 have hTl:=FB hR.mod f
 have hwW:=hw.below hB
 obtain⟨T,hT⟩:∃ T,Cw r.fields f=T:=⟨_,rfl⟩
 rw[hT]at hb TC hTl
 have HTC:=J TC
 have HM:=J hb
 have HWW:=J hwW
 have HTL:=J hTl
 clear TC hb hFW h hR hw hwW hT hTl
 go_enter Km,JI
 go_wp2_with (go_at_call 70;((with_reducible refine HTC.out.mono ?_);rintro e w1 ⟨v,rfl,ho,hb1⟩;obtain⟨xs,xa,xc,hxe,rfl,hS⟩:=Sr.own_xs ho;have HXS:=J hS;have HXE:=J hxe;clear hS hxe ho))
 have e0:=A0 hb1 d0
 have e2:=A0 hb1 d2
 have HW1:=J (HWW.out.below hb1)
 have hxl:xs.length≤100000000:=by have:=congrArg Cd HXE.out;have h2:=HTL.out;rw[At]at this;omega
 have hB1:=A8 hB hb1
 clear d0 d1 d2 d3 d4 d5 c0 c1 c2 c3 c4 hb1
 go_wp2
 go_loopw [8] (fun i wr=>∃ k:Nat,i=.int .i64 k∧k≤xs.length∧Hid (∀ j:Nat,j<k→(ws.map (·.data.toList)).isPrefixOf ((xs.map (·.data.toList)).drop j)=false)∧A6 w1.heap.size w1 wr) (fun i _=>xs.length - (Ad i).toNat)
 case atStart=>exact⟨0,by go_num,Ae _,J (by intro j;intros;omega),Ab _ _⟩
 case round =>
  obtain⟨k,rfl,hk,hI,hbr⟩:=hrel
  by_cases hlt:k<xs.length
  ·obtain⟨x,hx⟩:∃ x,xs[k]?=A2 x:=⟨_,A7 hlt⟩
   obtain⟨b1,o1,rfl,hb1,c1⟩:=(HXS.out.below hbr).get hx
   have f0:=A0 hbr e0
   have f2:=A0 hbr e2
   have CC:∀ W',A6 wr.heap.size wr W'→_:=fun W' h9=>r22_Row_c xs ws _ _ _ _ k W' ((HXS.out.below hbr).below h9) ((HW1.out.below hbr).below h9) (Nat.le_of_lt hlt) (by omega) (by omega)
   obtain⟨t,ht⟩:∃ t,(ws.map (·.data.toList)).isPrefixOf ((xs.map (·.data.toList)).drop k)=t:=⟨_,rfl⟩
   rw[ht]at CC
   have HC:=J CC
   have HXK:=J hx
   have HQ:=J ht
   have hki:(k:Int)<(xs.length:Int):=by omega
   clear CC hx ht
   cases t with
   | true =>
    have hbt:b=true:=by rw[← HM.out];exact Sr.st_hit HXE.out hlt HQ.out
    subst hbt
    go_wp2
    go_quiet ((go_at_call 72;exact Calls.quiet_of (HC.out _ (Ba (Ab _ _) _))))
    go_wp2
    go_ret
    exact⟨rfl,A8 hB1 (Ba hbr _)⟩
   | false =>
    go_wp2
    go_quiet ((go_at_call 72;exact Calls.quiet_of (HC.out _ (Ba (Ab _ _) _))))
    go_wp2
    go_roundw
    case rel=>exact⟨k+1,by go_num,hlt,J (fun j hj=>by
     rcases (by omega:j<k∨j=k) with h9 | h9
     ·exact hI.out j h9
     ·subst h9;exact HQ.out),Ba hbr _⟩
    case measure=>simp[Ad];omega
  ·obtain rfl:k=xs.length:=by omega
   have hbf:b=false:=by rw[← HM.out];exact Sr.st_miss HXE.out (fun k hk=>hI.out k hk)
   subst hbf
   go_wp2
   go_ret
   exact⟨rfl,A8 hB1 hbr⟩
theorem r22_Match_5 (r:BF) (fa:Option Ao) (fc:Nat) (B:Nat) (ks:List BK) (sa:Option Ao) (sc:Nat) (ka:Option Ao) (kc:Nat) (w:A9) (h:AV w fa fc r.fields) (hK:IR B w ka kc ks) (IH:∀ k∈ks,Sr.MC r fa fc B k) :
  Ac A3 26 #[.agg #[.int .i64 r.id,.int .i64 r.ver,.int .i64 r.kind,.string r.lang,.slice fa r.fields.length fc],.agg #[.int .i64 5,.int .i64 0,.slice sa 0 sc,.int .i64 0,.int .i64 0,.slice ka ks.length kc]] w fun e w'=>e=.returned (.bool (BD r.fields (.mk 5 0 [] 0 0 ks)))∧A6 w.heap.size w w':=by
 obtain⟨b,hb⟩:∃ b,BD r.fields (.mk 5 0 [] 0 0 ks)=b:=⟨_,rfl⟩
 rw[hb]
 obtain⟨W,hW⟩:∃ W,(w.alloc (.cells #[.int .i64 r.id,.int .i64 r.ver,.int .i64 r.kind,.string r.lang,.slice fa r.fields.length fc] 51)).alloc (.cells #[.int .i64 5,.int .i64 0,.slice sa 0 sc,.int .i64 0,.int .i64 0,.slice ka ks.length kc] 29)=W:=⟨_,rfl⟩
 have hRQ:=Et w r.id r.ver r.kind r.lang (.slice fa r.fields.length fc) (.int .i64 5) (.int .i64 0) (.slice sa 0 sc) (.int .i64 0) (.int .i64 0) (.slice ka ks.length kc) 51 29
 rw[hW]at hRQ
 obtain⟨hB,c0,c1,c2,c3,c4,d0,d1,d2,d3,d4,d5⟩:=hRQ
 have hFW:=h.below hB
 rw[Sr.match5]at hb
 have HM:=J hb
 have HKW:=J (hK.below hB)
 have HF:=J hFW
 have HIH:=J IH
 have hmax:=hK.max
 have hmx:maxLen=9223372036854775807:=rfl
 clear hb hFW h hK IH
 go_enter Km,JI
 go_wp2
 clear hW
 go_loopw [5] (fun i wr=>∃ k:Nat,i=.int .i64 k∧k≤ks.length∧Hid (∀ (j:Nat) (q:BK),j<k→ks[j]?=A2 q→BD r.fields q=true)∧A6 W.heap.size W wr) (fun i _=>ks.length - (Ad i).toNat)
 case atStart=>exact⟨0,by go_num,Ae _,J (fun j q hj=>absurd hj (FI _)),Ab _ _⟩
 case round =>
  obtain⟨k,rfl,hk,hI,hbr⟩:=hrel
  have g0:=A0 hbr c0
  have g1:=A0 hbr c1
  have g2:=A0 hbr c2
  have g3:=A0 hbr c3
  have g4:=A0 hbr c4
  have e0:=A0 hbr d0
  have e1:=A0 hbr d1
  have e2:=A0 hbr d2
  have e3:=A0 hbr d3
  have e4:=A0 hbr d4
  have e5:=A0 hbr d5
  clear c0 c1 c2 c3 c4 d0 d1 d2 d3 d4 d5
  by_cases hlt:k<ks.length
  ·obtain⟨x,hx⟩:∃ x,ks[k]?=A2 x:=⟨_,A7 hlt⟩
   obtain⟨kb,ko,xsa,xsc,xka,xkc,rfl,hkb,k0,k1,k2,k3,k4,k5,hq⟩:=(HKW.out.below hbr).get hx
   have CC:∀ W',A6 wr.heap.size wr W'→_:=fun W' h9=>HIH.out x (Ag hx) _ W' (hq.later h9) ((HF.out.below hbr).below h9)
   obtain⟨t,ht⟩:∃ t,BD r.fields x=t:=⟨_,rfl⟩
   rw[ht]at CC
   have HC:=J CC
   have HX:=J hx
   have HQ:=J ht
   have hki:(k:Int)<(ks.length:Int):=by omega
   clear CC hx ht hq
   cases t with
   | false =>
    have hbt:b=false:=by rw[← HM.out];exact List.all_eq_false.2 ⟨x,Ag HX.out,by rw[HQ.out];decide⟩
    subst hbt
    go_wp2
    go_region_held3 (fun w'=>A6 wr.heap.size wr w'∧w'.cell? ⟨w.heap.size,0,A4⟩=A2 (.int .i64 r.id)∧w'.cell? ⟨w.heap.size,1,A4⟩=A2 (.int .i64 r.ver)∧w'.cell? ⟨w.heap.size,2,A4⟩=A2 (.int .i64 r.kind)∧w'.cell? ⟨w.heap.size,3,A4⟩=A2 (.string r.lang)∧w'.cell? ⟨w.heap.size,4,A4⟩=A2 (.slice fa r.fields.length fc)∧w'.cell? ⟨w.heap.size+1,0,A4⟩=A2 (.int .i64 5)∧w'.cell? ⟨w.heap.size+1,1,A4⟩=A2 (.int .i64 0)∧w'.cell? ⟨w.heap.size+1,2,A4⟩=A2 (.slice sa 0 sc)∧w'.cell? ⟨w.heap.size+1,3,A4⟩=A2 (.int .i64 0)∧w'.cell? ⟨w.heap.size+1,4,A4⟩=A2 (.int .i64 0)∧w'.cell? ⟨w.heap.size+1,5,A4⟩=A2 (.slice (A2 ⟨kb,ko,A4⟩) ks.length kc)∧w'.cell? ⟨kb,ko+k*6,A4⟩=A2 (.int .i64 x.op)∧w'.cell? ⟨kb,ko+k*6+1,A4⟩=A2 (.int .i64 x.fld)∧w'.cell? ⟨kb,ko+k*6+2,A4⟩=A2 (.slice xsa x.ws.length xsc)∧w'.cell? ⟨kb,ko+k*6+3,A4⟩=A2 (.int .i64 x.a)∧w'.cell? ⟨kb,ko+k*6+4,A4⟩=A2 (.int .i64 x.b)∧w'.cell? ⟨kb,ko+k*6+5,A4⟩=A2 (.slice xka x.ks.length xkc))
     (first | exact⟨(Ab _ _).drew,g0,g1,g2,g3,g4,e0,e1,e2,e3,e4,e5,k0,k1,k2,k3,k4,k5⟩ | (go_split_ands;exact⟨A8 ‹_› hbx,by repeat' first | exact A0 hbx ‹_› | constructor⟩))
     (first | (go_split_ands;go_at_call 26;((with_reducible refine (HC.out _ ‹_›).mono ?_);rintro e wx ⟨rfl,hbx⟩)))
    go_split_ands
    have hb9:A6 wr.heap.size wr wx:=by assumption
    go_wp2
    go_ret
    exact⟨rfl,A8 hB (A8 hbr hb9)⟩
   | true =>
    go_wp2
    go_region_held3 (fun w'=>A6 wr.heap.size wr w'∧w'.cell? ⟨w.heap.size,0,A4⟩=A2 (.int .i64 r.id)∧w'.cell? ⟨w.heap.size,1,A4⟩=A2 (.int .i64 r.ver)∧w'.cell? ⟨w.heap.size,2,A4⟩=A2 (.int .i64 r.kind)∧w'.cell? ⟨w.heap.size,3,A4⟩=A2 (.string r.lang)∧w'.cell? ⟨w.heap.size,4,A4⟩=A2 (.slice fa r.fields.length fc)∧w'.cell? ⟨w.heap.size+1,0,A4⟩=A2 (.int .i64 5)∧w'.cell? ⟨w.heap.size+1,1,A4⟩=A2 (.int .i64 0)∧w'.cell? ⟨w.heap.size+1,2,A4⟩=A2 (.slice sa 0 sc)∧w'.cell? ⟨w.heap.size+1,3,A4⟩=A2 (.int .i64 0)∧w'.cell? ⟨w.heap.size+1,4,A4⟩=A2 (.int .i64 0)∧w'.cell? ⟨w.heap.size+1,5,A4⟩=A2 (.slice (A2 ⟨kb,ko,A4⟩) ks.length kc)∧w'.cell? ⟨kb,ko+k*6,A4⟩=A2 (.int .i64 x.op)∧w'.cell? ⟨kb,ko+k*6+1,A4⟩=A2 (.int .i64 x.fld)∧w'.cell? ⟨kb,ko+k*6+2,A4⟩=A2 (.slice xsa x.ws.length xsc)∧w'.cell? ⟨kb,ko+k*6+3,A4⟩=A2 (.int .i64 x.a)∧w'.cell? ⟨kb,ko+k*6+4,A4⟩=A2 (.int .i64 x.b)∧w'.cell? ⟨kb,ko+k*6+5,A4⟩=A2 (.slice xka x.ks.length xkc))
     (first | exact⟨(Ab _ _).drew,g0,g1,g2,g3,g4,e0,e1,e2,e3,e4,e5,k0,k1,k2,k3,k4,k5⟩ | (go_split_ands;exact⟨A8 ‹_› hbx,by repeat' first | exact A0 hbx ‹_› | constructor⟩))
     (first | (go_split_ands;go_at_call 26;((with_reducible refine (HC.out _ ‹_›).mono ?_);rintro e wx ⟨rfl,hbx⟩)))
    go_split_ands
    have hb9:A6 wr.heap.size wr wx:=by assumption
    go_wp2
    go_roundw
    case rel=>exact⟨k+1,by go_num,hlt,J (fun j z hj hz=>by
     rcases (by omega:j<k∨j=k) with h9 | h9
     ·exact hI.out j z h9 hz
     ·subst h9;rw[HX.out]at hz;injection hz with hz;rw[← hz];exact HQ.out),A8 hbr hb9⟩
    case measure=>simp[Ad];omega
  ·obtain rfl:k=ks.length:=by omega
   have hbf:b=true:=by rw[← HM.out];exact List.all_eq_true.2 fun q hq=>by obtain⟨j,hj⟩:=C3 hq;exact hI.out j q (Ai.1 hj).1 hj
   subst hbf
   go_wp2
   go_ret
   exact⟨rfl,A8 hB hbr⟩
theorem r22_Match_6 (r:BF) (fa:Option Ao) (fc:Nat) (B:Nat) (ks:List BK) (sa:Option Ao) (sc:Nat) (ka:Option Ao) (kc:Nat) (w:A9) (h:AV w fa fc r.fields) (hK:IR B w ka kc ks) (IH:∀ k∈ks,Sr.MC r fa fc B k) :
  Ac A3 26 #[.agg #[.int .i64 r.id,.int .i64 r.ver,.int .i64 r.kind,.string r.lang,.slice fa r.fields.length fc],.agg #[.int .i64 6,.int .i64 0,.slice sa 0 sc,.int .i64 0,.int .i64 0,.slice ka ks.length kc]] w fun e w'=>e=.returned (.bool (BD r.fields (.mk 6 0 [] 0 0 ks)))∧A6 w.heap.size w w':=by
 obtain⟨b,hb⟩:∃ b,BD r.fields (.mk 6 0 [] 0 0 ks)=b:=⟨_,rfl⟩
 rw[hb]
 obtain⟨W,hW⟩:∃ W,(w.alloc (.cells #[.int .i64 r.id,.int .i64 r.ver,.int .i64 r.kind,.string r.lang,.slice fa r.fields.length fc] 51)).alloc (.cells #[.int .i64 6,.int .i64 0,.slice sa 0 sc,.int .i64 0,.int .i64 0,.slice ka ks.length kc] 29)=W:=⟨_,rfl⟩
 have hRQ:=Et w r.id r.ver r.kind r.lang (.slice fa r.fields.length fc) (.int .i64 6) (.int .i64 0) (.slice sa 0 sc) (.int .i64 0) (.int .i64 0) (.slice ka ks.length kc) 51 29
 rw[hW]at hRQ
 obtain⟨hB,c0,c1,c2,c3,c4,d0,d1,d2,d3,d4,d5⟩:=hRQ
 have hFW:=h.below hB
 rw[Sr.match6]at hb
 have HM:=J hb
 have HKW:=J (hK.below hB)
 have HF:=J hFW
 have HIH:=J IH
 have hmax:=hK.max
 have hmx:maxLen=9223372036854775807:=rfl
 clear hb hFW h hK IH
 go_enter Km,JI
 go_wp2
 clear hW
 go_loopw [6] (fun i wr=>∃ k:Nat,i=.int .i64 k∧k≤ks.length∧Hid (∀ (j:Nat) (q:BK),j<k→ks[j]?=A2 q→BD r.fields q=false)∧A6 W.heap.size W wr) (fun i _=>ks.length - (Ad i).toNat)
 case atStart=>exact⟨0,by go_num,Ae _,J (fun j q hj=>absurd hj (FI _)),Ab _ _⟩
 case round =>
  obtain⟨k,rfl,hk,hI,hbr⟩:=hrel
  have g0:=A0 hbr c0
  have g1:=A0 hbr c1
  have g2:=A0 hbr c2
  have g3:=A0 hbr c3
  have g4:=A0 hbr c4
  have e0:=A0 hbr d0
  have e1:=A0 hbr d1
  have e2:=A0 hbr d2
  have e3:=A0 hbr d3
  have e4:=A0 hbr d4
  have e5:=A0 hbr d5
  clear c0 c1 c2 c3 c4 d0 d1 d2 d3 d4 d5
  by_cases hlt:k<ks.length
  ·obtain⟨x,hx⟩:∃ x,ks[k]?=A2 x:=⟨_,A7 hlt⟩
   obtain⟨kb,ko,xsa,xsc,xka,xkc,rfl,hkb,k0,k1,k2,k3,k4,k5,hq⟩:=(HKW.out.below hbr).get hx
   have CC:∀ W',A6 wr.heap.size wr W'→_:=fun W' h9=>HIH.out x (Ag hx) _ W' (hq.later h9) ((HF.out.below hbr).below h9)
   obtain⟨t,ht⟩:∃ t,BD r.fields x=t:=⟨_,rfl⟩
   rw[ht]at CC
   have HC:=J CC
   have HX:=J hx
   have HQ:=J ht
   have hki:(k:Int)<(ks.length:Int):=by omega
   clear CC hx ht hq
   cases t with
   | true =>
    have hbt:b=true:=by rw[← HM.out];exact BM.2 ⟨x,Ag HX.out,HQ.out⟩
    subst hbt
    go_wp2
    go_region_held3 (fun w'=>A6 wr.heap.size wr w'∧w'.cell? ⟨w.heap.size,0,A4⟩=A2 (.int .i64 r.id)∧w'.cell? ⟨w.heap.size,1,A4⟩=A2 (.int .i64 r.ver)∧w'.cell? ⟨w.heap.size,2,A4⟩=A2 (.int .i64 r.kind)∧w'.cell? ⟨w.heap.size,3,A4⟩=A2 (.string r.lang)∧w'.cell? ⟨w.heap.size,4,A4⟩=A2 (.slice fa r.fields.length fc)∧w'.cell? ⟨w.heap.size+1,0,A4⟩=A2 (.int .i64 6)∧w'.cell? ⟨w.heap.size+1,1,A4⟩=A2 (.int .i64 0)∧w'.cell? ⟨w.heap.size+1,2,A4⟩=A2 (.slice sa 0 sc)∧w'.cell? ⟨w.heap.size+1,3,A4⟩=A2 (.int .i64 0)∧w'.cell? ⟨w.heap.size+1,4,A4⟩=A2 (.int .i64 0)∧w'.cell? ⟨w.heap.size+1,5,A4⟩=A2 (.slice (A2 ⟨kb,ko,A4⟩) ks.length kc)∧w'.cell? ⟨kb,ko+k*6,A4⟩=A2 (.int .i64 x.op)∧w'.cell? ⟨kb,ko+k*6+1,A4⟩=A2 (.int .i64 x.fld)∧w'.cell? ⟨kb,ko+k*6+2,A4⟩=A2 (.slice xsa x.ws.length xsc)∧w'.cell? ⟨kb,ko+k*6+3,A4⟩=A2 (.int .i64 x.a)∧w'.cell? ⟨kb,ko+k*6+4,A4⟩=A2 (.int .i64 x.b)∧w'.cell? ⟨kb,ko+k*6+5,A4⟩=A2 (.slice xka x.ks.length xkc))
     (first | exact⟨(Ab _ _).drew,g0,g1,g2,g3,g4,e0,e1,e2,e3,e4,e5,k0,k1,k2,k3,k4,k5⟩ | (go_split_ands;exact⟨A8 ‹_› hbx,by repeat' first | exact A0 hbx ‹_› | constructor⟩))
     (first | (go_split_ands;go_at_call 26;((with_reducible refine (HC.out _ ‹_›).mono ?_);rintro e wx ⟨rfl,hbx⟩)))
    go_split_ands
    have hb9:A6 wr.heap.size wr wx:=by assumption
    go_wp2
    go_ret
    exact⟨rfl,A8 hB (A8 hbr hb9)⟩
   | false =>
    go_wp2
    go_region_held3 (fun w'=>A6 wr.heap.size wr w'∧w'.cell? ⟨w.heap.size,0,A4⟩=A2 (.int .i64 r.id)∧w'.cell? ⟨w.heap.size,1,A4⟩=A2 (.int .i64 r.ver)∧w'.cell? ⟨w.heap.size,2,A4⟩=A2 (.int .i64 r.kind)∧w'.cell? ⟨w.heap.size,3,A4⟩=A2 (.string r.lang)∧w'.cell? ⟨w.heap.size,4,A4⟩=A2 (.slice fa r.fields.length fc)∧w'.cell? ⟨w.heap.size+1,0,A4⟩=A2 (.int .i64 6)∧w'.cell? ⟨w.heap.size+1,1,A4⟩=A2 (.int .i64 0)∧w'.cell? ⟨w.heap.size+1,2,A4⟩=A2 (.slice sa 0 sc)∧w'.cell? ⟨w.heap.size+1,3,A4⟩=A2 (.int .i64 0)∧w'.cell? ⟨w.heap.size+1,4,A4⟩=A2 (.int .i64 0)∧w'.cell? ⟨w.heap.size+1,5,A4⟩=A2 (.slice (A2 ⟨kb,ko,A4⟩) ks.length kc)∧w'.cell? ⟨kb,ko+k*6,A4⟩=A2 (.int .i64 x.op)∧w'.cell? ⟨kb,ko+k*6+1,A4⟩=A2 (.int .i64 x.fld)∧w'.cell? ⟨kb,ko+k*6+2,A4⟩=A2 (.slice xsa x.ws.length xsc)∧w'.cell? ⟨kb,ko+k*6+3,A4⟩=A2 (.int .i64 x.a)∧w'.cell? ⟨kb,ko+k*6+4,A4⟩=A2 (.int .i64 x.b)∧w'.cell? ⟨kb,ko+k*6+5,A4⟩=A2 (.slice xka x.ks.length xkc))
     (first | exact⟨(Ab _ _).drew,g0,g1,g2,g3,g4,e0,e1,e2,e3,e4,e5,k0,k1,k2,k3,k4,k5⟩ | (go_split_ands;exact⟨A8 ‹_› hbx,by repeat' first | exact A0 hbx ‹_› | constructor⟩))
     (first | (go_split_ands;go_at_call 26;((with_reducible refine (HC.out _ ‹_›).mono ?_);rintro e wx ⟨rfl,hbx⟩)))
    go_split_ands
    have hb9:A6 wr.heap.size wr wx:=by assumption
    go_wp2
    go_roundw
    case rel=>exact⟨k+1,by go_num,hlt,J (fun j z hj hz=>by
     rcases (by omega:j<k∨j=k) with h9 | h9
     ·exact hI.out j z h9 hz
     ·subst h9;rw[HX.out]at hz;injection hz with hz;rw[← hz];exact HQ.out),A8 hbr hb9⟩
    case measure=>simp[Ad];omega
  ·obtain rfl:k=ks.length:=by omega
   have hbf:b=false:=by rw[← HM.out];exact List.any_eq_false.2 fun q hq=>by obtain⟨j,hj⟩:=C3 hq;rw[hI.out j q (Ai.1 hj).1 hj];decide
   subst hbf
   go_wp2
   go_ret
   exact⟨rfl,A8 hB hbr⟩
theorem r22_Match_7 (r:BF) (fa:Option Ao) (fc:Nat) (B:Nat) (x y:BK) (sa:Option Ao) (sc:Nat) (ka:Option Ao) (kc:Nat) (w:A9) (h:AV w fa fc r.fields) (hK:IR B w ka kc [x,y]) (IX:Sr.MC r fa fc B x) (IY:Sr.MC r fa fc B y) :
  Ac A3 26 #[.agg #[.int .i64 r.id,.int .i64 r.ver,.int .i64 r.kind,.string r.lang,.slice fa r.fields.length fc],.agg #[.int .i64 7,.int .i64 0,.slice sa 0 sc,.int .i64 0,.int .i64 0,.slice ka 2 kc]] w fun e w'=>e=.returned (.bool (BD r.fields (.mk 7 0 [] 0 0 [x,y])))∧A6 w.heap.size w w':=by
 obtain⟨b,hb⟩:∃ b,BD r.fields (.mk 7 0 [] 0 0 [x,y])=b:=⟨_,rfl⟩
 rw[hb]
 obtain⟨W,hW⟩:∃ W,(w.alloc (.cells #[.int .i64 r.id,.int .i64 r.ver,.int .i64 r.kind,.string r.lang,.slice fa r.fields.length fc] 51)).alloc (.cells #[.int .i64 7,.int .i64 0,.slice sa 0 sc,.int .i64 0,.int .i64 0,.slice ka 2 kc] 29)=W:=⟨_,rfl⟩
 have hRQ:=Et w r.id r.ver r.kind r.lang (.slice fa r.fields.length fc) (.int .i64 7) (.int .i64 0) (.slice sa 0 sc) (.int .i64 0) (.int .i64 0) (.slice ka 2 kc) 51 29
 rw[hW]at hRQ
 obtain⟨hB,c0,c1,c2,c3,c4,d0,d1,d2,d3,d4,d5⟩:=hRQ
 have hFW:=h.below hB
 rw[Sr.match7]at hb
 obtain⟨kb,ko,xsa,xsc,xka,xkc,rfl,hkb,x0,x1,x2,x3,x4,x5,hqx⟩:=(hK.below hB).get (k:=0) (q:=x) rfl
 obtain⟨kb2,ko2,ysa,ysc,yka,ykc,e9,hkb2,y0,y1,y2,y3,y4,y5,hqy⟩:=(hK.below hB).get (k:=1) (q:=y) rfl
 injection e9 with e9
 injection e9 with e9 e8
 subst e9 e8
 rw[Ew,Bs]at x0
 simp only[Ew,Nat.one_mul,Bs,FR,N7]at x0 x1 x2 x3 x4 x5 y0 y1 y2 y3 y4 y5
 have CX:∀ W',A6 W.heap.size W W'→_:=fun W' h9=>IX _ W' (hqx.later h9) (hFW.below h9)
 have CY:∀ W',A6 W.heap.size W W'→_:=fun W' h9=>IY _ W' (hqy.later h9) (hFW.below h9)
 obtain⟨t,ht⟩:∃ t,BD r.fields x=t:=⟨_,rfl⟩
 obtain⟨u,hu⟩:∃ u,BD r.fields y=u:=⟨_,rfl⟩
 rw[ht]at CX hb
 rw[hu]at CY hb
 have HCX:=J CX
 have HCY:=J CY
 subst hb
 clear CX CY ht hu hqx hqy hFW h hK IX IY hkb2
 cases t with
 | true =>
  have tu:(true&&!u)=!u:=rfl
  rw[tu]
  go_enter Km,JI
  go_wp2
  clear hW
  go_region_held3 (fun w'=>A6 W.heap.size W w'∧w'.cell? ⟨w.heap.size,0,A4⟩=A2 (.int .i64 r.id)∧w'.cell? ⟨w.heap.size,1,A4⟩=A2 (.int .i64 r.ver)∧w'.cell? ⟨w.heap.size,2,A4⟩=A2 (.int .i64 r.kind)∧w'.cell? ⟨w.heap.size,3,A4⟩=A2 (.string r.lang)∧w'.cell? ⟨w.heap.size,4,A4⟩=A2 (.slice fa r.fields.length fc)∧w'.cell? ⟨w.heap.size+1,0,A4⟩=A2 (.int .i64 7)∧w'.cell? ⟨w.heap.size+1,1,A4⟩=A2 (.int .i64 0)∧w'.cell? ⟨w.heap.size+1,2,A4⟩=A2 (.slice sa 0 sc)∧w'.cell? ⟨w.heap.size+1,3,A4⟩=A2 (.int .i64 0)∧w'.cell? ⟨w.heap.size+1,4,A4⟩=A2 (.int .i64 0)∧w'.cell? ⟨w.heap.size+1,5,A4⟩=A2 (.slice (A2 ⟨kb,ko,A4⟩) 2 kc)∧w'.cell? ⟨kb,ko,A4⟩=A2 (.int .i64 x.op)∧w'.cell? ⟨kb,ko+1,A4⟩=A2 (.int .i64 x.fld)∧w'.cell? ⟨kb,ko+2,A4⟩=A2 (.slice xsa x.ws.length xsc)∧w'.cell? ⟨kb,ko+3,A4⟩=A2 (.int .i64 x.a)∧w'.cell? ⟨kb,ko+4,A4⟩=A2 (.int .i64 x.b)∧w'.cell? ⟨kb,ko+5,A4⟩=A2 (.slice xka x.ks.length xkc)∧w'.cell? ⟨kb,ko+6,A4⟩=A2 (.int .i64 y.op)∧w'.cell? ⟨kb,ko+7,A4⟩=A2 (.int .i64 y.fld)∧w'.cell? ⟨kb,ko+8,A4⟩=A2 (.slice ysa y.ws.length ysc)∧w'.cell? ⟨kb,ko+9,A4⟩=A2 (.int .i64 y.a)∧w'.cell? ⟨kb,ko+10,A4⟩=A2 (.int .i64 y.b)∧w'.cell? ⟨kb,ko+11,A4⟩=A2 (.slice yka y.ks.length ykc))
   (first | exact⟨(Ab _ _).drew,c0,c1,c2,c3,c4,d0,d1,d2,d3,d4,d5,x0,x1,x2,x3,x4,x5,y0,y1,y2,y3,y4,y5⟩ | (go_split_ands;exact⟨A8 ‹_› hbx,by repeat' first | exact A0 hbx ‹_› | constructor⟩))
   (first
    |(go_split_ands;go_at_call 26;((with_reducible refine (HCX.out _ ‹_›).mono ?_);rintro e wx ⟨rfl,hbx⟩))
    |(go_split_ands;go_at_call 26;((with_reducible refine (HCY.out _ ‹_›).mono ?_);rintro e wx ⟨rfl,hbx⟩)))
  go_split_ands
  have hb9:A6 W.heap.size W wx:=by assumption
  go_wp2
  go_ret
  exact⟨rfl,A8 hB hb9⟩
 | false =>
  go_enter Km,JI
  go_wp2
  clear hW
  refine wp_region_held_drew (S:=(fun w'=>A6 W.heap.size W w'∧w'.cell? ⟨w.heap.size,0,A4⟩=A2 (.int .i64 r.id)∧w'.cell? ⟨w.heap.size,1,A4⟩=A2 (.int .i64 r.ver)∧w'.cell? ⟨w.heap.size,2,A4⟩=A2 (.int .i64 r.kind)∧w'.cell? ⟨w.heap.size,3,A4⟩=A2 (.string r.lang)∧w'.cell? ⟨w.heap.size,4,A4⟩=A2 (.slice fa r.fields.length fc)∧w'.cell? ⟨w.heap.size+1,0,A4⟩=A2 (.int .i64 7)∧w'.cell? ⟨w.heap.size+1,1,A4⟩=A2 (.int .i64 0)∧w'.cell? ⟨w.heap.size+1,2,A4⟩=A2 (.slice sa 0 sc)∧w'.cell? ⟨w.heap.size+1,3,A4⟩=A2 (.int .i64 0)∧w'.cell? ⟨w.heap.size+1,4,A4⟩=A2 (.int .i64 0)∧w'.cell? ⟨w.heap.size+1,5,A4⟩=A2 (.slice (A2 ⟨kb,ko,A4⟩) 2 kc)∧w'.cell? ⟨kb,ko,A4⟩=A2 (.int .i64 x.op)∧w'.cell? ⟨kb,ko+1,A4⟩=A2 (.int .i64 x.fld)∧w'.cell? ⟨kb,ko+2,A4⟩=A2 (.slice xsa x.ws.length xsc)∧w'.cell? ⟨kb,ko+3,A4⟩=A2 (.int .i64 x.a)∧w'.cell? ⟨kb,ko+4,A4⟩=A2 (.int .i64 x.b)∧w'.cell? ⟨kb,ko+5,A4⟩=A2 (.slice xka x.ks.length xkc)∧w'.cell? ⟨kb,ko+6,A4⟩=A2 (.int .i64 y.op)∧w'.cell? ⟨kb,ko+7,A4⟩=A2 (.int .i64 y.fld)∧w'.cell? ⟨kb,ko+8,A4⟩=A2 (.slice ysa y.ws.length ysc)∧w'.cell? ⟨kb,ko+9,A4⟩=A2 (.int .i64 y.a)∧w'.cell? ⟨kb,ko+10,A4⟩=A2 (.int .i64 y.b)∧w'.cell? ⟨kb,ko+11,A4⟩=A2 (.slice yka y.ks.length ykc))) (by kernel_rfl) ?_ (fun hHeld=>?_)
  ·(first | exact⟨(Ab _ _).drew,c0,c1,c2,c3,c4,d0,d1,d2,d3,d4,d5,x0,x1,x2,x3,x4,x5,y0,y1,y2,y3,y4,y5⟩ | (go_split_ands;exact⟨A8 ‹_› hbx,by repeat' first | exact A0 hbx ‹_› | constructor⟩))
  refine C0 (i:=0) (oi:=⟨A2 53,_,_,_,_,_⟩) (v:=.agg #[.int .i64 r.id,.int .i64 r.ver,.int .i64 r.kind,.string r.lang,.slice fa r.fields.length fc]) rfl (by kernel_rfl) (by kernel_rfl) (by kernel_rfl) (fun _ _ _ h=>h) (F2 ⟨by rfl,?_⟩) ‹_› ?_
  ·intro w hSw;(try dsimp only at hSw);go_simp
  simp only[DI,AJ,B4,B5]
  refine C0 (i:=1) (oi:=⟨A2 54,_,_,_,_,_⟩) (v:=.pointer (A2 ⟨w.heap.size+1,5,A4⟩)) rfl (by kernel_rfl) (by kernel_rfl) (by kernel_rfl) (fun _ _ _ h=>h) (F2 ⟨by rfl,?_⟩) ‹_› ?_
  ·intro w hSw;(try dsimp only at hSw);go_simp
  simp only[DI,AJ,B4,B5]
  refine C0 (i:=2) (oi:=⟨A2 55,_,_,_,_,_⟩) (v:=.slice (A2 ⟨kb,ko,A4⟩) 2 kc) rfl (by kernel_rfl) (by kernel_rfl) (by kernel_rfl) (fun _ _ _ h=>h) (F2 ⟨by rfl,?_⟩) ‹_› ?_
  ·intro w hSw;(try dsimp only at hSw);go_simp
  simp only[DI,AJ,B4,B5]
  refine C0 (i:=3) (oi:=⟨A2 56,_,_,_,_,_⟩) (v:=.pointer (A2 ⟨kb,ko,A4⟩)) rfl (by kernel_rfl) (by kernel_rfl) (by kernel_rfl) (fun _ _ _ h=>h) (F2 ⟨by rfl,?_⟩) ‹_› ?_
  ·intro w hSw;(try dsimp only at hSw);go_simp
  simp only[DI,AJ,B4,B5]
  refine C0 (i:=4) (oi:=⟨A2 57,_,_,_,_,_⟩) (v:=.agg #[.int .i64 x.op,.int .i64 x.fld,.slice xsa x.ws.length xsc,.int .i64 x.a,.int .i64 x.b,.slice xka x.ks.length xkc]) rfl (by kernel_rfl) (by kernel_rfl) (by kernel_rfl) (fun _ _ _ h=>h) (F2 ⟨by rfl,?_⟩) ‹_› ?_
  ·intro w hSw;(try dsimp only at hSw);go_simp
  simp only[DI,AJ,B4,B5]
  refine wpAnyH_ready (rs:=[5]) (by kernel_rfl) (by simp) ?_
  refine AllReadyH.cons (o:=⟨A2 58,_,_,_,_,_⟩) rfl (fun K hK=>?_) AllReadyH.nil
  go_simp
  go_split_ands
  go_at_call 26
  refine (HCX.out _ ‹_›).mono ?_
  rintro e wx ⟨rfl,hbx⟩
  go_wp2_with fail
  refine hK.out _ _ ?_ (fun hHeld=>?_)
  ·(first | exact⟨(Ab _ _).drew,c0,c1,c2,c3,c4,d0,d1,d2,d3,d4,d5,x0,x1,x2,x3,x4,x5,y0,y1,y2,y3,y4,y5⟩ | (go_split_ands;exact⟨A8 ‹_› hbx,by repeat' first | exact A0 hbx ‹_› | constructor⟩))
  clear hK K
  try simp only[DI,AJ,B4,B5]
  refine C0 (i:=6) (oi:=⟨A2 59,_,_,_,_,_⟩) (v:=.bool false) rfl (by kernel_rfl) (by kernel_rfl) (by kernel_rfl) (fun _ _ _ h=>h) (F2 ⟨by rfl,?_⟩) ‹_› ?_
  ·intro w hSw;(try dsimp only at hSw);go_simp
  simp only[DI,AJ,B4,B5]
  refine C0 (i:=7) (oi:=⟨A2 60,_,_,_,_,_⟩) (v:=undef) rfl (by kernel_rfl) (by kernel_rfl) (by kernel_rfl) (fun _ _ _ h=>h) (G9 ⟨by rfl,rfl⟩) ‹_› ?_
  simp only[DI,AJ,B4,B5]
  refine C0 (i:=8) (oi:=⟨A2 61,_,_,_,_,_⟩) (v:=undef) rfl (by kernel_rfl) (by kernel_rfl) (by kernel_rfl) (fun _ _ _ h=>h) (G9 ⟨by rfl,rfl⟩) ‹_› ?_
  simp only[DI,AJ,B4,B5]
  refine C0 (i:=9) (oi:=⟨A2 62,_,_,_,_,_⟩) (v:=undef) rfl (by kernel_rfl) (by kernel_rfl) (by kernel_rfl) (fun _ _ _ h=>h) (G9 ⟨by rfl,rfl⟩) ‹_› ?_
  simp only[DI,AJ,B4,B5]
  refine C0 (i:=10) (oi:=⟨A2 63,_,_,_,_,_⟩) (v:=undef) rfl (by kernel_rfl) (by kernel_rfl) (by kernel_rfl) (fun _ _ _ h=>h) (G9 ⟨by rfl,rfl⟩) ‹_› ?_
  simp only[DI,AJ,B4,B5]
  refine C0 (i:=11) (oi:=⟨A2 64,_,_,_,_,_⟩) (v:=undef) rfl (by kernel_rfl) (by kernel_rfl) (by kernel_rfl) (fun _ _ _ h=>h) (G9 ⟨by rfl,rfl⟩) ‹_› ?_
  simp only[DI,AJ,B4,B5]
  refine C0 (i:=12) (oi:=⟨A2 65,_,_,_,_,_⟩) (v:=undef) rfl (by kernel_rfl) (by kernel_rfl) (by kernel_rfl) (fun _ _ _ h=>h) (G9 ⟨by rfl,rfl⟩) ‹_› ?_
  simp only[DI,AJ,B4,B5]
  refine C0 (i:=13) (oi:=⟨A2 66,_,_,_,_,_⟩) (v:=undef) rfl (by kernel_rfl) (by kernel_rfl) (by kernel_rfl) (fun _ _ _ h=>h) (G9 ⟨by rfl,rfl⟩) ‹_› ?_
  simp only[DI,AJ,B4,B5]
  refine C0 (i:=14) (oi:=⟨A2 67,_,_,_,_,_⟩) (v:=.bool false) rfl (by kernel_rfl) (by kernel_rfl) (by kernel_rfl) (fun _ _ _ h=>h) (F2 ⟨by rfl,?_⟩) ‹_› ?_
  ·intro w hSw;(try dsimp only at hSw);go_simp
  simp only[DI,AJ,B4,B5]
  refine C0 (i:=15) (oi:=⟨A2 4,_,_,_,_,_⟩) (v:=.bool false) rfl (by kernel_rfl) (by kernel_rfl) (by kernel_rfl) (fun _ _ _ h=>h) (F2 ⟨by rfl,?_⟩) ‹_› ?_
  ·intro w hSw;(try dsimp only at hSw);go_simp
  simp only[DI,AJ,B4,B5]
  refine wpAnyH_done (by kernel_rfl) ?_ _
  go_split_ands
  have hb9:A6 W.heap.size W wx:=by assumption
  go_wp2
  go_ret
  exact⟨rfl,A8 hB hb9⟩
theorem r22_Match_c (r:BF) (fa:Option Ao) (fc B:Nat) (hR:FH r):∀ q,Sr.Rq q→Sr.MC r fa fc B q:=by
 refine Qr.Qy.ind ?_
 intro o f ws a b ks ih hq cs w hc h
 obtain⟨sa,sc,ka,kc,rfl,hw,_,hK⟩:=hc.kids
 dsimp only[Qr.Qy.op,Qr.Qy.fld,Qr.Qy.a,Qr.Qy.b,Qr.Qy.ks,Qr.Qy.ws]at hw hK ⊢
 have hS:ws≠[]→SLA w sa sc ws:=fun hne=>by
  obtain⟨a9,c9,e,h9⟩:=hw.sla
  injection e with e1 e2 e3
  subst e1 e3
  exact h9 hne
 have hne:1≤ws.length→ws≠[]:=fun h9 e=>by rw[e]at h9;exact absurd h9 (by decide)
 cases hq with
 | term h1 h2 h3 h5 h4 =>
  rcases h1 with rfl | rfl | rfl
  ·exact r22_Match_1 r fa fc f ws sa sc ka kc w h hR (hS (hne h3.1)) (by omega)
  ·obtain⟨y,rfl⟩:=E2.1 (h5 (by decide))
   exact r22_Match_2 r fa fc f y sa sc ka kc w h hR (hS (hne h3.1))
  ·exact r22_Match_3 r fa fc f ws sa sc ka kc w h hR (hS (hne h3.1)) (by omega)
 | years h1 h2=>exact r22_Match_4 r fa fc a b sa sc ka kc w h hR
 | kids h1 h2 h4 h3 =>
  rcases h1 with rfl | rfl | rfl
  ·exact r22_Match_5 r fa fc B ks sa sc ka kc w h hK fun k hk=>ih k hk (h3 k hk)
  ·exact r22_Match_6 r fa fc B ks sa sc ka kc w h hK fun k hk=>ih k hk (h3 k hk)
  ·obtain⟨x,y,rfl⟩:∃ x y,ks=[x,y]:=by
    have h6:=h4 rfl
    match ks,h6 with
    | [x,y],_=>exact⟨x,y,rfl⟩
   exact r22_Match_7 r fa fc B x y sa sc ka kc w h hK (ih x AY (h3 x AY)) (ih y (Bw _ AY) (h3 y (Bw _ AY)))
namespace Sr
open Rc hiding bys
open Qr
def MP (r:Rd) (fa:Option Ao) (fc B:Nat) (q:Qy):Prop:=∀ (cs:List Ah) (w:A9),QC B w q cs→AV w fa fc r.fields→G w →
  Ac A3 25 #[.agg #[.int .i64 r.id,.int .i64 r.ver,.int .i64 r.kind,.string r.lang,.slice fa r.fields.length fc],.agg cs.toArray] w fun e w'=>e=.returned (.bool (matchB r.fields q))∧A6 w.heap.size w w'
structure CapR (w:A9) (Y:Nat) (r:Rd) (fa:Option Ao) (fc:Nat):Prop where
 c0:w.cell? ⟨Y,0,A4⟩=A2 (.int .i64 r.id)
 c1:w.cell? ⟨Y,1,A4⟩=A2 (.int .i64 r.ver)
 c2:w.cell? ⟨Y,2,A4⟩=A2 (.int .i64 r.kind)
 c3:w.cell? ⟨Y,3,A4⟩=A2 (.string r.lang)
 c4:w.cell? ⟨Y,4,A4⟩=A2 (.slice fa r.fields.length fc)
theorem CapR.below {w w':A9}{Y:Nat}{r:Rd}{fa:Option Ao}{fc:Nat} (h:CapR w Y r fa fc) (hb:A6 w.heap.size w w'):CapR w' Y r fa fc :=
 ⟨A0 hb h.c0,A0 hb h.c1,A0 hb h.c2,A0 hb h.c3,A0 hb h.c4⟩
structure CapW (w:A9) (Y:Nat) (y:ByteArray):Prop where
 ex:∃ (b o c:Nat),w.cell? ⟨Y,2,A4⟩=A2 (.slice (A2 ⟨b,o,A4⟩) 1 c)∧w.cell? ⟨b,o,A4⟩=A2 (.string y)∧b<w.heap.size
theorem CapW.below {w w':A9}{Y:Nat}{y:ByteArray} (h:CapW w Y y) (hb:A6 w.heap.size w w'):CapW w' Y y:=by
 obtain⟨b,o,c,h1,h2,h3⟩:=h.ex
 exact⟨b,o,c,A0 hb h1,A0 hb h2,Nat.lt_of_lt_of_le h3 hb.size⟩
end Sr
theorem sr_m1_enters:∀ args w,(E5 59 args).run A3 w=.ok (.enter 59 args) w:=enters_of Tryz.func59 (by kernel_rfl) rfl
theorem sr_m2_enters:∀ args w,(E5 60 args).run A3 w=.ok (.enter 60 args) w:=enters_of Tryz.func60 (by kernel_rfl) rfl
theorem sr_m3_enters:∀ args w,(E5 64 args).run A3 w=.ok (.enter 64 args) w:=enters_of Tryz.func64 (by kernel_rfl) rfl
theorem sr_m1_c (r:BF) (fa:Option Ao) (fc B Y:Nat) (q:BK) (hM:Sr.MP r fa fc B q) (cs:List Ah) (w:A9) (hq:Qr.QC B w q cs) (hC:Sr.CapR w Y r fa fc) (hF:AV w fa fc r.fields) (hG:G w) :
  Ac A3 59 #[.agg cs.toArray,.pointer (A2 ⟨Y,0,A4⟩)] w fun e w'=>e=.returned (.bool (BD r.fields q))∧A6 w.heap.size w w':=by
 obtain⟨sa,sc,ka,kc,rfl,_,_,_⟩:=hq.kids
 obtain⟨W,hW⟩:∃ W,w.alloc (.cells #[.int .i64 q.op,.int .i64 q.fld,.slice sa q.ws.length sc,.int .i64 q.a,.int .i64 q.b,.slice ka q.ks.length kc] 29)=W:=⟨_,rfl⟩
 have hB:A6 w.heap.size w W:=by rw[← hW];exact Tx.newb _ _
 have d0:W.cell? ⟨w.heap.size,0,A4⟩=A2 (.int .i64 q.op):=by rw[← hW];simp
 have d1:W.cell? ⟨w.heap.size,1,A4⟩=A2 (.int .i64 q.fld):=by rw[← hW];simp
 have d2:W.cell? ⟨w.heap.size,2,A4⟩=A2 (.slice sa q.ws.length sc):=by rw[← hW];simp
 have d3:W.cell? ⟨w.heap.size,3,A4⟩=A2 (.int .i64 q.a):=by rw[← hW];simp
 have d4:W.cell? ⟨w.heap.size,4,A4⟩=A2 (.int .i64 q.b):=by rw[← hW];simp
 have d5:W.cell? ⟨w.heap.size,5,A4⟩=A2 (.slice ka q.ks.length kc):=by rw[← hW];simp
 obtain⟨c0,c1,c2,c3,c4⟩:=hC.below hB
 have HC:=J (hM _ W (hq.later hB) (hF.below hB) (hG.below hB))
 clear hM hq hC hF hG
 go_enter Tryz.func59,Tryz.ntmps59
 go_wp2_with (go_at_call 25;((with_reducible refine HC.out.mono ?_);rintro e w1 ⟨rfl,hb1⟩))
 go_ret
 exact⟨rfl,A8 hB hb1⟩
theorem sr_m2_c (r:BF) (fa:Option Ao) (fc B Y:Nat) (q:BK) (hM:Sr.MP r fa fc B q) (cs:List Ah) (w:A9) (hq:Qr.QC B w q cs) (hC:Sr.CapR w Y r fa fc) (hF:AV w fa fc r.fields) (hG:G w) :
  Ac A3 60 #[.agg cs.toArray,.pointer (A2 ⟨Y,0,A4⟩)] w fun e w'=>e=.returned (.bool (!Sr.matchB r.fields q))∧A6 w.heap.size w w':=by
 obtain⟨sa,sc,ka,kc,rfl,_,_,_⟩:=hq.kids
 obtain⟨W,hW⟩:∃ W,w.alloc (.cells #[.int .i64 q.op,.int .i64 q.fld,.slice sa q.ws.length sc,.int .i64 q.a,.int .i64 q.b,.slice ka q.ks.length kc] 29)=W:=⟨_,rfl⟩
 have hB:A6 w.heap.size w W:=by rw[← hW];exact Tx.newb _ _
 have d0:W.cell? ⟨w.heap.size,0,A4⟩=A2 (.int .i64 q.op):=by rw[← hW];simp
 have d1:W.cell? ⟨w.heap.size,1,A4⟩=A2 (.int .i64 q.fld):=by rw[← hW];simp
 have d2:W.cell? ⟨w.heap.size,2,A4⟩=A2 (.slice sa q.ws.length sc):=by rw[← hW];simp
 have d3:W.cell? ⟨w.heap.size,3,A4⟩=A2 (.int .i64 q.a):=by rw[← hW];simp
 have d4:W.cell? ⟨w.heap.size,4,A4⟩=A2 (.int .i64 q.b):=by rw[← hW];simp
 have d5:W.cell? ⟨w.heap.size,5,A4⟩=A2 (.slice ka q.ks.length kc):=by rw[← hW];simp
 obtain⟨c0,c1,c2,c3,c4⟩:=hC.below hB
 have HC:=J (hM _ W (hq.later hB) (hF.below hB) (hG.below hB))
 clear hM hq hC hF hG
 go_enter Tryz.func60,Tryz.ntmps60
 go_wp2_with (go_at_call 25;((with_reducible refine HC.out.mono ?_);rintro e w1 ⟨rfl,hb1⟩))
 go_ret
 exact⟨rfl,A8 hB hb1⟩
theorem sr_m3_c (x y:ByteArray) (Y:Nat) (w:A9) (hC:Sr.CapW w Y y) :
  Ac A3 64 #[.string x,.pointer (A2 ⟨Y,0,A4⟩)] w fun e w'=>e=.returned (.bool (C7 x.data.toList y.data.toList))∧A6 w.heap.size w w':=by
 obtain⟨b,o,c,c2,c3,hbl⟩:=hC.ex
 have HC:Hid (∀ w',Ac A3 65 #[.string x,.string y] w' fun e w''=>e=.returned (.bool (C7 x.data.toList y.data.toList))∧w'=w''):=J (fun w'=>(Tryz.strings_HasPrefix x y w').mono fun _ _ ⟨h8,h9⟩=>⟨h8,by first | exact h9 | exact h9.symm⟩)
 go_enter Tryz.func64,Tryz.ntmps64
 go_wp2_with (go_at_call 65;((with_reducible refine (HC.out _).mono ?_);rintro e w1 ⟨rfl,rfl⟩))
 go_ret
 exact⟨rfl,Ab _ _⟩
theorem contQ_c (g:Nat) (lb:Array Ah) (eg:∀ args w,(E5 g args).run A3 w=.ok (.enter g args) w) (B:Nat) (p:BK→Bool) (ks:List BK) (ka:Option Ao) (kc:Nat) (w:A9) (hK:IR B w ka kc ks) (hne:ks≠[])
  (hp:∀ k∈ks,∀ cs W,A6 w.heap.size w W→Qr.QC B w k cs→Ac A3 g (#[.agg cs.toArray]++lb) W fun e w'=>e=.returned (.bool (p k))∧A6 w.heap.size w w') :
  Ac A3 68 #[.slice ka ks.length kc,.func (.func g) #[] lb] w fun e w'=>e=.returned (.bool (ks.any p))∧A6 w.heap.size w w':=by
 have hml:maxLen=9223372036854775807:=rfl
 have hmax:=hK.max
 obtain⟨css,hl,hq,hf,_⟩:=hK.ex
 obtain⟨b,o,h1,_⟩:=hf.at_
 have hce:css≠[]:=fun e=>hne (List.eq_nil_of_length_eq_zero (by rw[← hl,e];rfl))
 obtain⟨rfl,hb⟩:=h1 hce
 have hpos:0<ks.length:=List.length_pos_iff.2 hne
 let α:={ t:BK × List Ah // t.1∈ks∧Qr.QC B w t.1 t.2 }
 let zs:List α:=List.ofFn fun j:Fin ks.length=>⟨(ks[j.val],css[j.val]'(by rw[hl];exact j.isLt)),Gn _,hq j.val _ _ (A7 _) (A7 _)⟩
 have hzl:zs.length=ks.length:=List.length_ofFn
 haveI:Inhabited α:=⟨zs[0]'(by rw[hzl];exact hpos)⟩
 have hx:=AnyQ.slices_ContainsFunc Tryz.contQry 6 Tryz.isAgg29 Tryz.sizeOf29 (fun t:α=>t.1.2) (fun t=>t.2.2.len) (fun t=>p t.1.1) g lb eg b o ks.length kc zs w (fun W x hW=>hp x.1.1 x.2.1 x.1.2 W hW x.2.2) (by rw[hzl];exact Nat.le_refl _) (by omega) hb (fun j hj i v hv=>by
  rw[hzl]at hj
  have e:zs[j]! = zs[j]'(by rw[hzl];exact hj):=getElem!_pos _ _ _
  have e2:(zs[j]'(by rw[hzl];exact hj)).1.2=css[j]'(by rw[hl];exact hj):=by simp only[zs,Mz]
  rw[e,e2]at hv
  obtain⟨b',o',e1,_,e3⟩:=hf.get (k:=j) (A7 (by rw[hl];exact hj))
  injection e1 with e1
  injection e1 with e1 e4
  subst e1 e4
  exact e3 i v hv)
 have ea:(zs.take ks.length).any (fun t=>p t.1.1)=ks.any p:=by
  rw[← hzl,List.take_length,Bool.eq_iff_iff,BM,BM]
  constructor
  ·rintro⟨t,_,h9⟩
   exact⟨t.1.1,t.2.1,h9⟩
  ·rintro⟨k,hk,h9⟩
   obtain⟨j,hj,e⟩:=List.getElem_of_mem hk
   refine⟨zs[j]'(by rw[hzl];exact hj),Gn _,?_⟩
   simp only[zs,Mz]
   rw[e]
   exact h9
 rw[ea]at hx
 exact hx
theorem sr_Match_4 (r:BF) (fa:Option Ao) (fc:Nat) (ya yb:Int) (sa:Option Ao) (sc:Nat) (ka:Option Ao) (kc:Nat) (w:A9) (h:AV w fa fc r.fields) (hR:FH r) :
  Ac A3 25 #[.agg #[.int .i64 r.id,.int .i64 r.ver,.int .i64 r.kind,.string r.lang,.slice fa r.fields.length fc],.agg #[.int .i64 4,.int .i64 0,.slice sa 0 sc,.int .i64 ya,.int .i64 yb,.slice ka 0 kc]] w fun e w'=>e=.returned (.bool (BD r.fields (.mk 4 0 [] ya yb [])))∧A6 w.heap.size w w':=by
 have hmf:∀ (fn:Fn) (first cap:Array Ah) (w:A9),(Cl fn first cap).run A3 w=.ok (.func fn first cap) w:=fun _ _ _ _=>rfl
 obtain⟨b,hb⟩:∃ b,BD r.fields (.mk 4 0 [] ya yb [])=b:=⟨_,rfl⟩
 rw[hb]
 obtain⟨W,hW⟩:∃ W,(w.alloc (.cells #[.int .i64 r.id,.int .i64 r.ver,.int .i64 r.kind,.string r.lang,.slice fa r.fields.length fc] 51)).alloc (.cells #[.int .i64 4,.int .i64 0,.slice sa 0 sc,.int .i64 ya,.int .i64 yb,.slice ka 0 kc] 29)=W:=⟨_,rfl⟩
 have hRQ:=Et w r.id r.ver r.kind r.lang (.slice fa r.fields.length fc) (.int .i64 4) (.int .i64 0) (.slice sa 0 sc) (.int .i64 ya) (.int .i64 yb) (.slice ka 0 kc) 51 29
 rw[hW]at hRQ
 obtain⟨hB,c0,c1,c2,c3,c4,d0,d1,d2,d3,d4,d5⟩:=hRQ
 have hFW:=h.below hB
 have YC:=search_years_c r.fields fa fc r.id r.ver r.kind r.lang 4 0 ya yb (.slice sa 0 sc) (.slice ka 0 kc) W hFW hR.gd
 rw[← Sr.match4,hb]at YC
 have HY:=J YC
 clear YC hb hFW h hR
 go_enter Fi,EX
 go_wp2_with (go_at_call 67;((with_reducible refine HY.out.mono ?_);rintro e w1 ⟨rfl,hb1⟩))
 go_ret
 exact⟨rfl,A8 hB hb1⟩
theorem sr_Match_1 (r:BF) (fa:Option Ao) (fc:Nat) (f:Int) (y:ByteArray) (sa:Option Ao) (sc:Nat) (ka:Option Ao) (kc:Nat) (w:A9) (h:AV w fa fc r.fields) (hR:FH r) (hG:G w) (hw:SLA w sa sc [y]) :
  Ac A3 25 #[.agg #[.int .i64 r.id,.int .i64 r.ver,.int .i64 r.kind,.string r.lang,.slice fa r.fields.length fc],.agg #[.int .i64 1,.int .i64 f,.slice sa 1 sc,.int .i64 0,.int .i64 0,.slice ka 0 kc]] w fun e w'=>e=.returned (.bool (BD r.fields (.mk 1 f [y] 0 0 [])))∧A6 w.heap.size w w':=by
 have hmf:∀ (fn:Fn) (first cap:Array Ah) (w:A9),(Cl fn first cap).run A3 w=.ok (.func fn first cap) w:=fun _ _ _ _=>rfl
 obtain⟨b,hb⟩:∃ b,BD r.fields (.mk 1 f [y] 0 0 [])=b:=⟨_,rfl⟩
 rw[hb]
 obtain⟨W,hW⟩:∃ W,(w.alloc (.cells #[.int .i64 r.id,.int .i64 r.ver,.int .i64 r.kind,.string r.lang,.slice fa r.fields.length fc] 51)).alloc (.cells #[.int .i64 1,.int .i64 f,.slice sa 1 sc,.int .i64 0,.int .i64 0,.slice ka 0 kc] 29)=W:=⟨_,rfl⟩
 have hRQ:=Et w r.id r.ver r.kind r.lang (.slice fa r.fields.length fc) (.int .i64 1) (.int .i64 f) (.slice sa 1 sc) (.int .i64 0) (.int .i64 0) (.slice ka 0 kc) 51 29
 rw[hW]at hRQ
 obtain⟨hB,c0,c1,c2,c3,c4,d0,d1,d2,d3,d4,d5⟩:=hRQ
 have hFW:=h.below hB
 rw[Sr.match1]at hb
 have TC:∀ W',A6 W.heap.size W W'→_:=fun W' h9=>ix_Terms_c r.fields fa fc r.id r.ver r.kind r.lang f W' ((hG.below hB).below h9) (hFW.below h9) hR.mod hR.gd
 have hTl:=FB hR.mod f
 have hwW:=hw.below hB
 obtain⟨T,hT⟩:∃ T,Cw r.fields f=T:=⟨_,rfl⟩
 rw[hT]at hb TC hTl
 have HTC:=J TC
 have HM:=J hb
 have HWW:=J hwW
 have HTL:=J hTl
 clear TC hb hFW h hR hw hwW hT hTl hG
 obtain⟨b2,o2,rfl,hb2,y0⟩:=HWW.out.get (k:=0) (x:=y) rfl
 rw[Bs]at y0
 go_enter Fi,EX
 go_wp2
 clear hW
 go_region_held3 (fun w'=>A6 W.heap.size W w'∧w'.cell? ⟨w.heap.size,0,A4⟩=A2 (.int .i64 r.id)∧w'.cell? ⟨w.heap.size,1,A4⟩=A2 (.int .i64 r.ver)∧w'.cell? ⟨w.heap.size,2,A4⟩=A2 (.int .i64 r.kind)∧w'.cell? ⟨w.heap.size,3,A4⟩=A2 (.string r.lang)∧w'.cell? ⟨w.heap.size,4,A4⟩=A2 (.slice fa r.fields.length fc)∧w'.cell? ⟨w.heap.size+1,0,A4⟩=A2 (.int .i64 1)∧w'.cell? ⟨w.heap.size+1,1,A4⟩=A2 (.int .i64 f)∧w'.cell? ⟨w.heap.size+1,2,A4⟩=A2 (.slice (A2 ⟨b2,o2,A4⟩) 1 sc)∧w'.cell? ⟨w.heap.size+1,3,A4⟩=A2 (.int .i64 0)∧w'.cell? ⟨w.heap.size+1,4,A4⟩=A2 (.int .i64 0)∧w'.cell? ⟨w.heap.size+1,5,A4⟩=A2 (.slice ka 0 kc)∧w'.cell? ⟨b2,o2,A4⟩=A2 (.string y))
  (first | exact⟨(Ab _ _).drew,c0,c1,c2,c3,c4,d0,d1,d2,d3,d4,d5,y0⟩ | (go_split_ands;exact⟨A8 ‹_› hbx,by repeat' first | exact A0 hbx ‹_› | constructor⟩) | (go_split_ands;exact⟨by assumption,by assumption,by assumption,by assumption,by assumption,by assumption,by assumption,by assumption,by assumption,by assumption,by assumption,by assumption,by assumption⟩))
  (first
   |(go_split_ands;go_at_call 62;((with_reducible refine (HTC.out _ (by first | exact Ab _ _ | assumption)).mono ?_);rintro e wx ⟨v,rfl,ho,hbx⟩;obtain⟨xs,xa,xc,hxe,rfl,hS⟩:=Sr.own_xs ho;have HXS:=J hS;have HXE:=J hxe;have HXL:Hid (xs.length≤100000000):=J (by have:=congrArg Cd hxe;have h2:=HTL.out;rw[At]at this;omega);clear hS hxe ho))
   |(go_split_ands;go_at_call 61;have CN:=containsS_c xs _ _ y _ HXS.out;rw[show decide (y.data.toList∈xs.map (·.data.toList))=b from (by rw[HXE.out,← HM.out];exact Sr.stands_one.symm)]at CN;((with_reducible refine CN.mono ?_);rintro e wx ⟨rfl,rfl⟩)))
 go_split_ands
 go_wp2
 go_ret
 exact⟨rfl,A8 hB ‹_›⟩
theorem sr_Match_2 (r:BF) (fa:Option Ao) (fc:Nat) (f:Int) (y:ByteArray) (sa:Option Ao) (sc:Nat) (ka:Option Ao) (kc:Nat) (w:A9) (h:AV w fa fc r.fields) (hR:FH r) (hG:G w) (hw:SLA w sa sc [y]) :
  Ac A3 25 #[.agg #[.int .i64 r.id,.int .i64 r.ver,.int .i64 r.kind,.string r.lang,.slice fa r.fields.length fc],.agg #[.int .i64 2,.int .i64 f,.slice sa 1 sc,.int .i64 0,.int .i64 0,.slice ka 0 kc]] w fun e w'=>e=.returned (.bool (BD r.fields (.mk 2 f [y] 0 0 [])))∧A6 w.heap.size w w':=by
 have hmf:∀ (fn:Fn) (first cap:Array Ah) (w:A9),(Cl fn first cap).run A3 w=.ok (.func fn first cap) w:=fun _ _ _ _=>rfl
 obtain⟨b,hb⟩:∃ b,BD r.fields (.mk 2 f [y] 0 0 [])=b:=⟨_,rfl⟩
 rw[hb]
 obtain⟨W,hW⟩:∃ W,(w.alloc (.cells #[.int .i64 r.id,.int .i64 r.ver,.int .i64 r.kind,.string r.lang,.slice fa r.fields.length fc] 51)).alloc (.cells #[.int .i64 2,.int .i64 f,.slice sa 1 sc,.int .i64 0,.int .i64 0,.slice ka 0 kc] 29)=W:=⟨_,rfl⟩
 have hRQ:=Et w r.id r.ver r.kind r.lang (.slice fa r.fields.length fc) (.int .i64 2) (.int .i64 f) (.slice sa 1 sc) (.int .i64 0) (.int .i64 0) (.slice ka 0 kc) 51 29
 rw[hW]at hRQ
 obtain⟨hB,c0,c1,c2,c3,c4,d0,d1,d2,d3,d4,d5⟩:=hRQ
 have hFW:=h.below hB
 rw[Sr.match2]at hb
 have TC:∀ W',A6 W.heap.size W W'→_:=fun W' h9=>ix_Terms_c r.fields fa fc r.id r.ver r.kind r.lang f W' ((hG.below hB).below h9) (hFW.below h9) hR.mod hR.gd
 have hTl:=FB hR.mod f
 have hwW:=hw.below hB
 obtain⟨T,hT⟩:∃ T,Cw r.fields f=T:=⟨_,rfl⟩
 rw[hT]at hb TC hTl
 have HTC:=J TC
 have HM:=J hb
 have HWW:=J hwW
 have HTL:=J hTl
 clear TC hb hFW h hR hw hwW hT hTl hG
 obtain⟨b2,o2,rfl,hb2,y0⟩:=HWW.out.get (k:=0) (x:=y) rfl
 rw[Bs]at y0
 have hCW:Sr.CapW W (w.heap.size+1) y:=⟨b2,o2,sc,d2,y0,hb2⟩
 have HCW:=J hCW
 clear hCW
 go_enter Fi,EX
 go_wp2_with (first
  |(go_at_call 62;((with_reducible refine (HTC.out _ (by first | exact Ab _ _ | assumption)).mono ?_);rintro e wx ⟨v,rfl,ho,hbx⟩;obtain⟨xs,xa,xc,hxe,rfl,hS⟩:=Sr.own_xs ho;have HXS:=J hS;have HXE:=J hxe;have HXL:Hid (xs.length≤100000000):=J (by have:=congrArg Cd hxe;have h2:=HTL.out;rw[At]at this;omega);clear hS hxe ho);have CF:=J (sr_cont_c 64 #[.pointer (A2 ⟨w.heap.size+1,0,A4⟩)] sr_m3_enters (fun x=>C7 x.data.toList y.data.toList) xs xa xc wx HXS.out (fun x _ w' hb'=>(sr_m3_c x y _ w' ((HCW.out.below hbx).below hb')).mono fun _ _ ⟨h8,h9⟩=>⟨h8,A8 hb' h9⟩));have HX9:=J hbx;clear hbx)
  |(go_at_call 63;((with_reducible refine CF.out.mono ?_);rintro e w2 ⟨rfl,hb2'⟩)))
 go_ret
 refine⟨?_,A8 hB (A8 HX9.out hb2')⟩
 rw[← HM.out,← HXE.out,List.any_map]
 rfl
theorem sr_Match_3 (r:BF) (fa:Option Ao) (fc:Nat) (f:Int) (ws:List ByteArray) (sa:Option Ao) (sc:Nat) (ka:Option Ao) (kc:Nat) (w:A9) (h:AV w fa fc r.fields) (hR:FH r) (hG:G w) (hw:SLA w sa sc ws) (hw0:ws≠[]) (hn:ws.length≤1000000) :
  Ac A3 25 #[.agg #[.int .i64 r.id,.int .i64 r.ver,.int .i64 r.kind,.string r.lang,.slice fa r.fields.length fc],.agg #[.int .i64 3,.int .i64 f,.slice sa ws.length sc,.int .i64 0,.int .i64 0,.slice ka 0 kc]] w fun e w'=>e=.returned (.bool (BD r.fields (.mk 3 f ws 0 0 [])))∧A6 w.heap.size w w':=by
 have hmf:∀ (fn:Fn) (first cap:Array Ah) (w:A9),(Cl fn first cap).run A3 w=.ok (.func fn first cap) w:=fun _ _ _ _=>rfl
 obtain⟨b,hb⟩:∃ b,BD r.fields (.mk 3 f ws 0 0 [])=b:=⟨_,rfl⟩
 rw[hb]
 obtain⟨W,hW⟩:∃ W,(w.alloc (.cells #[.int .i64 r.id,.int .i64 r.ver,.int .i64 r.kind,.string r.lang,.slice fa r.fields.length fc] 51)).alloc (.cells #[.int .i64 3,.int .i64 f,.slice sa ws.length sc,.int .i64 0,.int .i64 0,.slice ka 0 kc] 29)=W:=⟨_,rfl⟩
 have hRQ:=Et w r.id r.ver r.kind r.lang (.slice fa r.fields.length fc) (.int .i64 3) (.int .i64 f) (.slice sa ws.length sc) (.int .i64 0) (.int .i64 0) (.slice ka 0 kc) 51 29
 rw[hW]at hRQ
 obtain⟨hB,c0,c1,c2,c3,c4,d0,d1,d2,d3,d4,d5⟩:=hRQ
 have hFW:=h.below hB
 rw[Sr.match3]at hb
 have TC:∀ W',A6 W.heap.size W W'→_:=fun W' h9=>ix_Terms_c r.fields fa fc r.id r.ver r.kind r.lang f W' ((hG.below hB).below h9) (hFW.below h9) hR.mod hR.gd
 have hTl:=FB hR.mod f
 have hwW:=hw.below hB
 obtain⟨T,hT⟩:∃ T,Cw r.fields f=T:=⟨_,rfl⟩
 rw[hT]at hb TC hTl
 have HTC:=J TC
 have HM:=J hb
 have HWW:=J hwW
 have HTL:=J hTl
 clear TC hb hFW h hR hw hwW hT hTl hG
 go_enter Fi,EX
 go_wp2
 clear hW
 go_region_held3 (fun w'=>A6 W.heap.size W w'∧w'.cell? ⟨w.heap.size,0,A4⟩=A2 (.int .i64 r.id)∧w'.cell? ⟨w.heap.size,1,A4⟩=A2 (.int .i64 r.ver)∧w'.cell? ⟨w.heap.size,2,A4⟩=A2 (.int .i64 r.kind)∧w'.cell? ⟨w.heap.size,3,A4⟩=A2 (.string r.lang)∧w'.cell? ⟨w.heap.size,4,A4⟩=A2 (.slice fa r.fields.length fc)∧w'.cell? ⟨w.heap.size+1,0,A4⟩=A2 (.int .i64 3)∧w'.cell? ⟨w.heap.size+1,1,A4⟩=A2 (.int .i64 f)∧w'.cell? ⟨w.heap.size+1,2,A4⟩=A2 (.slice sa ws.length sc)∧w'.cell? ⟨w.heap.size+1,3,A4⟩=A2 (.int .i64 0)∧w'.cell? ⟨w.heap.size+1,4,A4⟩=A2 (.int .i64 0)∧w'.cell? ⟨w.heap.size+1,5,A4⟩=A2 (.slice ka 0 kc))
  (first | exact⟨(Ab _ _).drew,c0,c1,c2,c3,c4,d0,d1,d2,d3,d4,d5⟩ | (go_split_ands;exact⟨A8 ‹_› hbx,by repeat' first | exact A0 hbx ‹_› | constructor⟩) | (go_split_ands;exact⟨by assumption,by assumption,by assumption,by assumption,by assumption,by assumption,by assumption,by assumption,by assumption,by assumption,by assumption,by assumption⟩))
  (first
   |(go_split_ands;go_at_call 62;((with_reducible refine (HTC.out _ (by first | exact Ab _ _ | assumption)).mono ?_);rintro e wx ⟨v,rfl,ho,hbx⟩;obtain⟨xs,xa,xc,hxe,rfl,hS⟩:=Sr.own_xs ho;have HXS:=J hS;have HXE:=J hxe;have HXL:Hid (xs.length≤100000000):=J (by have:=congrArg Cd hxe;have h2:=HTL.out;rw[At]at this;omega);clear hS hxe ho))
   |(go_split_ands;go_at_call 66;((with_reducible refine (search_stands_c xs ws _ _ _ _ _ HXS.out (HWW.out.below ‹_›) hw0 (by have:=HXL.out;omega) (by omega)).mono ?_);rintro e wx ⟨rfl,hbx⟩)))
 go_split_ands
 go_wp2
 go_ret
 exact⟨Tx.retb (by rw[HXE.out];exact HM.out),A8 hB ‹_›⟩
theorem sr_Match_5 (r:BF) (fa:Option Ao) (fc:Nat) (B:Nat) (ks:List BK) (sa:Option Ao) (sc:Nat) (ka:Option Ao) (kc:Nat) (w:A9) (h:AV w fa fc r.fields) (hG:G w) (hK:IR B w ka kc ks) (hne:ks≠[]) (IH:∀ k∈ks,Sr.MP r fa fc B k) :
  Ac A3 25 #[.agg #[.int .i64 r.id,.int .i64 r.ver,.int .i64 r.kind,.string r.lang,.slice fa r.fields.length fc],.agg #[.int .i64 5,.int .i64 0,.slice sa 0 sc,.int .i64 0,.int .i64 0,.slice ka ks.length kc]] w fun e w'=>e=.returned (.bool (BD r.fields (.mk 5 0 [] 0 0 ks)))∧A6 w.heap.size w w':=by
 have hmf:∀ (fn:Fn) (first cap:Array Ah) (w:A9),(Cl fn first cap).run A3 w=.ok (.func fn first cap) w:=fun _ _ _ _=>rfl
 obtain⟨b,hb⟩:∃ b,BD r.fields (.mk 5 0 [] 0 0 ks)=b:=⟨_,rfl⟩
 rw[hb]
 obtain⟨W,hW⟩:∃ W,(w.alloc (.cells #[.int .i64 r.id,.int .i64 r.ver,.int .i64 r.kind,.string r.lang,.slice fa r.fields.length fc] 51)).alloc (.cells #[.int .i64 5,.int .i64 0,.slice sa 0 sc,.int .i64 0,.int .i64 0,.slice ka ks.length kc] 29)=W:=⟨_,rfl⟩
 have hRQ:=Et w r.id r.ver r.kind r.lang (.slice fa r.fields.length fc) (.int .i64 5) (.int .i64 0) (.slice sa 0 sc) (.int .i64 0) (.int .i64 0) (.slice ka ks.length kc) 51 29
 rw[hW]at hRQ
 obtain⟨hB,c0,c1,c2,c3,c4,d0,d1,d2,d3,d4,d5⟩:=hRQ
 have hFW:=h.below hB
 rw[Sr.match5]at hb
 have hb2:ks.any (fun q=>!Sr.matchB r.fields q)=!b:=by rw[← hb,List.any_eq_not_all_not];simp
 have hCR:Sr.CapR W w.heap.size r fa fc:=⟨c0,c1,c2,c3,c4⟩
 have CF:=contQ_c 60 #[.pointer (A2 ⟨w.heap.size,0,A4⟩)] sr_m2_enters B (fun q=>!Sr.matchB r.fields q) ks ka kc W (hK.below hB) hne (fun k hk cs W' hW' hq=>(sr_m2_c r fa fc B _ k (IH k hk) cs W' (hq.later hW') (hCR.below hW') (hFW.below hW') ((hG.below hB).below hW')).mono fun _ _ ⟨h8,h9⟩=>⟨h8,A8 hW' h9⟩)
 rw[hb2]at CF
 have HCF:=J CF
 clear CF hb hb2 hFW h hK IH hCR hG hne
 go_enter Fi,EX
 go_wp2_with (go_at_call 68;((with_reducible refine HCF.out.mono ?_);rintro e w2 ⟨rfl,hb2'⟩))
 go_ret
 exact⟨Tx.retb (by simp),A8 hB hb2'⟩
theorem sr_Match_6 (r:BF) (fa:Option Ao) (fc:Nat) (B:Nat) (ks:List BK) (sa:Option Ao) (sc:Nat) (ka:Option Ao) (kc:Nat) (w:A9) (h:AV w fa fc r.fields) (hG:G w) (hK:IR B w ka kc ks) (hne:ks≠[]) (IH:∀ k∈ks,Sr.MP r fa fc B k) :
  Ac A3 25 #[.agg #[.int .i64 r.id,.int .i64 r.ver,.int .i64 r.kind,.string r.lang,.slice fa r.fields.length fc],.agg #[.int .i64 6,.int .i64 0,.slice sa 0 sc,.int .i64 0,.int .i64 0,.slice ka ks.length kc]] w fun e w'=>e=.returned (.bool (BD r.fields (.mk 6 0 [] 0 0 ks)))∧A6 w.heap.size w w':=by
 have hmf:∀ (fn:Fn) (first cap:Array Ah) (w:A9),(Cl fn first cap).run A3 w=.ok (.func fn first cap) w:=fun _ _ _ _=>rfl
 obtain⟨b,hb⟩:∃ b,BD r.fields (.mk 6 0 [] 0 0 ks)=b:=⟨_,rfl⟩
 rw[hb]
 obtain⟨W,hW⟩:∃ W,(w.alloc (.cells #[.int .i64 r.id,.int .i64 r.ver,.int .i64 r.kind,.string r.lang,.slice fa r.fields.length fc] 51)).alloc (.cells #[.int .i64 6,.int .i64 0,.slice sa 0 sc,.int .i64 0,.int .i64 0,.slice ka ks.length kc] 29)=W:=⟨_,rfl⟩
 have hRQ:=Et w r.id r.ver r.kind r.lang (.slice fa r.fields.length fc) (.int .i64 6) (.int .i64 0) (.slice sa 0 sc) (.int .i64 0) (.int .i64 0) (.slice ka ks.length kc) 51 29
 rw[hW]at hRQ
 obtain⟨hB,c0,c1,c2,c3,c4,d0,d1,d2,d3,d4,d5⟩:=hRQ
 have hFW:=h.below hB
 rw[Sr.match6]at hb
 have hb2:=hb
 have hCR:Sr.CapR W w.heap.size r fa fc:=⟨c0,c1,c2,c3,c4⟩
 have CF:=contQ_c 59 #[.pointer (A2 ⟨w.heap.size,0,A4⟩)] sr_m1_enters B (BD r.fields) ks ka kc W (hK.below hB) hne (fun k hk cs W' hW' hq=>(sr_m1_c r fa fc B _ k (IH k hk) cs W' (hq.later hW') (hCR.below hW') (hFW.below hW') ((hG.below hB).below hW')).mono fun _ _ ⟨h8,h9⟩=>⟨h8,A8 hW' h9⟩)
 rw[hb2]at CF
 have HCF:=J CF
 clear CF hb hb2 hFW h hK IH hCR hG hne
 go_enter Fi,EX
 go_wp2_with (go_at_call 68;((with_reducible refine HCF.out.mono ?_);rintro e w2 ⟨rfl,hb2'⟩))
 go_ret
 exact⟨rfl,A8 hB hb2'⟩
theorem sr_Match_7 (r:BF) (fa:Option Ao) (fc:Nat) (B:Nat) (x y:BK) (sa:Option Ao) (sc:Nat) (ka:Option Ao) (kc:Nat) (w:A9) (h:AV w fa fc r.fields) (hG:G w) (hK:IR B w ka kc [x,y]) (IX:Sr.MP r fa fc B x) (IY:Sr.MP r fa fc B y) :
  Ac A3 25 #[.agg #[.int .i64 r.id,.int .i64 r.ver,.int .i64 r.kind,.string r.lang,.slice fa r.fields.length fc],.agg #[.int .i64 7,.int .i64 0,.slice sa 0 sc,.int .i64 0,.int .i64 0,.slice ka 2 kc]] w fun e w'=>e=.returned (.bool (BD r.fields (.mk 7 0 [] 0 0 [x,y])))∧A6 w.heap.size w w':=by
 have hmf:∀ (fn:Fn) (first cap:Array Ah) (w:A9),(Cl fn first cap).run A3 w=.ok (.func fn first cap) w:=fun _ _ _ _=>rfl
 obtain⟨b,hb⟩:∃ b,BD r.fields (.mk 7 0 [] 0 0 [x,y])=b:=⟨_,rfl⟩
 rw[hb]
 obtain⟨W,hW⟩:∃ W,(w.alloc (.cells #[.int .i64 r.id,.int .i64 r.ver,.int .i64 r.kind,.string r.lang,.slice fa r.fields.length fc] 51)).alloc (.cells #[.int .i64 7,.int .i64 0,.slice sa 0 sc,.int .i64 0,.int .i64 0,.slice ka 2 kc] 29)=W:=⟨_,rfl⟩
 have hRQ:=Et w r.id r.ver r.kind r.lang (.slice fa r.fields.length fc) (.int .i64 7) (.int .i64 0) (.slice sa 0 sc) (.int .i64 0) (.int .i64 0) (.slice ka 2 kc) 51 29
 rw[hW]at hRQ
 obtain⟨hB,c0,c1,c2,c3,c4,d0,d1,d2,d3,d4,d5⟩:=hRQ
 have hFW:=h.below hB
 rw[Sr.match7]at hb
 obtain⟨kb,ko,xsa,xsc,xka,xkc,rfl,hkb,x0,x1,x2,x3,x4,x5,hqx⟩:=(hK.below hB).get (k:=0) (q:=x) rfl
 obtain⟨kb2,ko2,ysa,ysc,yka,ykc,e9,hkb2,y0,y1,y2,y3,y4,y5,hqy⟩:=(hK.below hB).get (k:=1) (q:=y) rfl
 injection e9 with e9
 injection e9 with e9 e8
 subst e9 e8
 rw[Ew,Bs]at x0
 simp only[Ew,Nat.one_mul,Bs,FR,N7]at x0 x1 x2 x3 x4 x5 y0 y1 y2 y3 y4 y5
 have hCR:Sr.CapR W w.heap.size r fa fc:=⟨c0,c1,c2,c3,c4⟩
 have CX:=sr_m1_c r fa fc B w.heap.size x IX _ W hqx hCR hFW (hG.below hB)
 have CY:∀ W',A6 W.heap.size W W'→_:=fun W' h9=>sr_m2_c r fa fc B w.heap.size y IY _ W' (hqy.later h9) (hCR.below h9) (hFW.below h9) ((hG.below hB).below h9)
 obtain⟨t,ht⟩:∃ t,BD r.fields x=t:=⟨_,rfl⟩
 obtain⟨u,hu⟩:∃ u,BD r.fields y=u:=⟨_,rfl⟩
 rw[ht]at CX hb
 rw[hu]at CY hb
 have HCX:=J CX
 have HCY:=J CY
 subst hb
 clear CX CY ht hu hqx hqy hFW h hK IX IY hkb2 hG hCR c0 c1 c2 c3 c4
 cases t with
 | true =>
  have tu:(true&&!u)=!u:=rfl
  rw[tu]
  go_enter Fi,EX
  go_wp2_with (first
   |(go_at_call 59;refine HCX.out.mono ?_;rintro e wx ⟨rfl,hbx⟩;replace d5:=A0 hbx d5;replace y0:=A0 hbx y0;replace y1:=A0 hbx y1;replace y2:=A0 hbx y2;replace y3:=A0 hbx y3;replace y4:=A0 hbx y4;replace y5:=A0 hbx y5)
   |(go_at_call 60;refine (HCY.out _ hbx).mono ?_;rintro e wz ⟨rfl,hbz⟩))
  go_ret
  exact⟨rfl,A8 hB (A8 hbx hbz)⟩
 | false =>
  go_enter Fi,EX
  go_wp2_with (go_at_call 59;refine HCX.out.mono ?_;rintro e wx ⟨rfl,hbx⟩)
  go_ret
  exact⟨rfl,A8 hB hbx⟩
theorem search_Match_c (r:BF) (fa:Option Ao) (fc B:Nat) (hR:FH r):∀ q,Sr.Rq q→Sr.MP r fa fc B q:=by
 refine Qr.Qy.ind ?_
 intro o f ws a b ks ih hq cs w hc h hG
 obtain⟨sa,sc,ka,kc,rfl,hw,_,hK⟩:=hc.kids
 dsimp only[Qr.Qy.op,Qr.Qy.fld,Qr.Qy.a,Qr.Qy.b,Qr.Qy.ks,Qr.Qy.ws]at hw hK ⊢
 have hS:ws≠[]→SLA w sa sc ws:=fun hne=>by
  obtain⟨a9,c9,e,h9⟩:=hw.sla
  injection e with e1 e2 e3
  subst e1 e3
  exact h9 hne
 have hne:1≤ws.length→ws≠[]:=fun h9 e=>by rw[e]at h9;exact absurd h9 (by decide)
 cases hq with
 | term h1 h2 h3 h5 h4 =>
  rcases h1 with rfl | rfl | rfl
  ·obtain⟨y,rfl⟩:=E2.1 (h5 (by decide))
   exact sr_Match_1 r fa fc f y sa sc ka kc w h hR hG (hS (hne h3.1))
  ·obtain⟨y,rfl⟩:=E2.1 (h5 (by decide))
   exact sr_Match_2 r fa fc f y sa sc ka kc w h hR hG (hS (hne h3.1))
  ·exact sr_Match_3 r fa fc f ws sa sc ka kc w h hR hG (hS (hne h3.1)) (hne h3.1) (by omega)
 | years h1 h2=>exact sr_Match_4 r fa fc a b sa sc ka kc w h hR
 | kids h1 h2 h4 h3 =>
  have hk0:ks≠[]:=fun e=>by rw[e]at h2;exact absurd h2.1 (by decide)
  rcases h1 with rfl | rfl | rfl
  ·exact sr_Match_5 r fa fc B ks sa sc ka kc w h hG hK hk0 fun k hk=>ih k hk (h3 k hk)
  ·exact sr_Match_6 r fa fc B ks sa sc ka kc w h hG hK hk0 fun k hk=>ih k hk (h3 k hk)
  ·obtain⟨x,y,rfl⟩:∃ x y,ks=[x,y]:=by
    have h6:=h4 rfl
    match ks,h6 with
    | [x,y],_=>exact⟨x,y,rfl⟩
   exact sr_Match_7 r fa fc B x y sa sc ka kc w h hG hK (ih x AY (h3 x AY)) (ih y (Bw _ AY) (h3 y (Bw _ AY)))
end Go.Proofs.YtlakomilichhnaaGreatDoor
