/- Parts. -/
import Derived.Test.YtlakomilichhnaaGreatDoorRPb
import Derived.Test.YtlakomilichhnaaGreatDoorRPc
import Derived.Laws.EntriesVeiled
namespace Go.Proofs.YtlakomilichhnaaGreatDoor
set_option maxHeartbeats 3200000
set_option maxRecDepth 100000
open Go.RowKit
open Go renaming Calls->Af,Value->Ak,World->Ab,cell_later->A4
open Ix renaming OwnI->Bq
open Lib renaming hid->J
open List renaming length_map->Ax,map_append->AY,map_map->DF,take_add_one->Cz,take_length->At
open Option renaming none->A0,some->A3
open Proofs.Tryz renaming prog->A8
open Value renaming int->B3
open World renaming ownsRow_nil->AI
namespace Rc
end Rc
theorem containsI_c (xs:List Int) (n:Int) (a:Option Addr) (c:Nat) (w:Ab) (h:Ix.IA w a c xs) :
  Af A8 40 #[.slice a xs.length c,.int .i64 n] w fun e w'=>e=.returned (.bool (decide (n∈xs)))/\w'=w:=by
 have hcap:=h.cap;have hmax:=h.max;unfold maxLen at hmax;cases xs with
 | nil =>
  have:=Tryz.slices_Contains_int_empty a c n w;simpa using this
 | cons x r =>
  obtain⟨b,o,h1,h2⟩:=h.at_;obtain⟨rfl,_⟩:=h1 oZ
  have:=Tryz.slices_Contains_int b o (x::r).length c (x::r) n w (Nat.le_refl _) oQ (fun j hj=>by
   have:=h2 j 0 ((x::r).getD j 0) (.int .i64 ((x::r).getD j 0)) uY rfl;simpa using this)
  rw[At]at this;have e:decide (n∈x::r)=(x::r).contains n:=by rw[Bool.eq_iff_iff];simp
  rw[e];exact this
namespace Sr
open Rc
theorem flt_succ {l:List Rd}{k:Nat}{x:Rd} (ids:List Int) (h:l[k]?=A3 x):(l.take (k+1)).filter (fun r=>decide (r.id∈ids))=(l.take k).filter (fun r=>decide (r.id∈ids))++(if x.id∈ids then [x] else []):=by
 rw[Cz,h,List.filter_append];by_cases hx:x.id∈ids <;> simp[hx]
theorem ownI_le {w:Ab}{B B':Nat}{v:Ak}{l:List Int} (h:Bq w B v l) (hB:B'<=B):Bq w B' v l :=
 ⟨h.1,by
  rcases h.2 with h1 | ⟨g,cap,cur,h1,h2,h3⟩
  ·exact .inl h1
  ·exact .inr ⟨g,cap,cur,h1,Nat.le_trans hB h2,h3⟩⟩
theorem order_rt {S T:List RT}{l:List Rd}{by_:Int}{lang:By}{ids:List Int} (hT:T.map (·.1)=l.filter fun r=>decide (r.id∈ids)) (hp:S.Perm T) (hs:Srt (fun x y:RT=>ltV (vals by_ lang x.1) (vals by_ lang y.1)) S) (hn:(l.map (·.id)).Nodup):S.map (·.1.id)=order l ids by_ lang:=by
 have h:=order_sorted (S:=S.map (·.1)) (T:=T.map (·.1)) (by_:=by_) (lang:=lang) (hp.map _) (by rw[List.pairwise_map];exact hs) (by
  rw[hT];exact List.Nodup.sublist (List.Sublist.map _ List.filter_sublist) hn)
 rw[DF,hT]at h;exact h
end Sr
theorem info_rec5:(A8.info? 51).map (fun i=>(i.zero,i.size,i.bytes))=A3 (A3 (.agg #[.int .i64 0,.int .i64 0,.int .i64 0,.string ⟨#[]⟩,.slice A0 0 0]),5,64):=by kernel_rfl
theorem search_Order_c (l:List Rc.Rd) (la:Option Addr) (lc:Nat) (ids:List Int) (ia:Option Addr) (ic:Nat) (by_:Int) (lang:ByteArray) (w:Ab) (hG:G w) (hl:Rc.RdA w la lc l) (hi:Ix.IA w ia ic ids) (hR:∀ r∈l,Sr.Rg r) (hn:(l.map (·.id)).Nodup) (hll:l.length<=12) :
  Af A8 17 #[.slice la l.length lc,.slice ia ids.length ic,.int .i64 by_,.string lang] w fun e w'=>∃ v,e=.returned v/\Bq w' w.heap.size v (Sr.order l ids by_ lang.data.toList)/\Below w.heap.size w w':=by
 have hml:maxLen=9223372036854775807:=rfl;obtain⟨i0,hi0,hz0,hz1,hz2⟩:=info_parts info_rec5;obtain⟨i1,hi1,hy0,hy1,hy2⟩:=zhb;have HI0:=J hi0;have HI1:=J hi1;clear hi0 hi1;obtain⟨W,hW⟩:∃ W,(w.alloc (.cells #[.int .i64 by_] 3)).alloc (.cells #[.string lang] 9)=W:=⟨_,rfl⟩;have hB:=zk;have hWs:=zbs;have k0:W.cell? ⟨w.heap.size,0,A0⟩=A3 (.int .i64 by_):=by rw[<- hW];simp
 have k1:W.cell? ⟨w.heap.size+1,0,A0⟩=A3 (.string lang):=by rw[<- hW];simp
 have HL:=J (hl.below hB);have HIA:=J (hi.below hB);have HG:=J (hG.below hB);have HR:=J hR;have HN:=J hn;have HWS:=J hWs;have HK0:=J k0;have HK1:=J k1;have hcap:=hl.cap;have hmax:=hl.max;clear hl hi hG hR hn hWs k0 k1;go_enter Tryz.func17,Tryz.ntmps17;go_wp2;clear hW;go_loopw [9,18] (fun v i wr=>∃ (k:Nat) (T:List Rc.RT),k<=l.length/\i=.int .i64 k/\Hid (T.map (·.1)=(l.take k).filter fun r=>decide (r.id∈ids))/\T.length<=k/\Hid (wr.ownsRow W.heap.size 51 5 v T.length (T.flatMap Rc.encR))/\Hid (∀ t∈T,t.1∈l/\Rc.FldA W t.2.1 t.2.2 t.1.fields)/\Below W.heap.size W wr) (fun _ i _=>l.length - (intOf i).toNat)
 case atStart=>exact⟨0,[],Nat.zero_le _,rfl,J oZ,Nat.le_refl _,J (AI _ _ _ _),J eZ,Below.refl _ _⟩
 case round =>
  obtain⟨k,T,hk,rfl,hT,hTk,hown,hF,hb⟩:=hrel;have hbs:=hb.size;by_cases hlt:k<l.length
  ·obtain⟨x,hx⟩:=zcq;obtain⟨b,o,fa,fc,rfl,hbl,x0,x1,x2,x3,x4,hfx⟩:=HL.out.get hx;replace x0:=A4 hb x0;replace x1:=A4 hb x1;replace x2:=A4 hb x2;replace x3:=A4 hb x3;replace x4:=A4 hb x4;have hst:=Sr.flt_succ ids hx;have hxm:=zgk
   have hFX:Hid (∀ t∈T++[(x,fa,fc)],t.1∈l/\Rc.FldA W t.2.1 t.2.2 t.1.fields):=J (fun t ht=>by
    rcases List.mem_append.1 ht with ht | ht
    ·exact hF.out t ht
    ·rw[List.mem_singleton]at ht;rw[ht];exact⟨hxm,hfx⟩)
   obtain⟨U,hU,-,y0,y1,y2,y3,y4⟩:=zbz;have hbU:=zmv;have hbUs:=hbU.size;have hoU:=zdx;rw[hU]at hoU;have CC:=containsI_c ids x.id ia ic U (HIA.out.below hbU);have HOU:=J hoU;have HF:=J hF;clear hoU hx hfx hown hxm hF;by_cases hin:x.id∈ids
   ·rw[decide_eq_true hin]at CC;rw[if_pos hin]at hst;have HC:=zik;have HT:Hid ((T++[(x,fa,fc)]).map (·.1)=(l.take (k+1)).filter fun r=>decide (r.id∈ids)):=J (by rw[hst,<- hT.out,AY];rfl);clear CC hst hin hT
    go_wp2_with (first
     |(go_at_call 40;(with_reducible refine HC.out.mono ?_);rintro e w7 ⟨rfl,rfl⟩)
     |(at_builtin;go_must ((refine wpList_append_sl rfl _ _ 25 rfl W.heap.size 51 i0 _ 5 64 Tryz.underlying25 HI0.out hz0 hz1 hz2 rfl oX _ T.length _ rfl (HOU.out.alloc _) (A3 ⟨_,0,A0⟩) 1 1 (Rc.encR (x,fa,fc)) rfl rfl oF oD (by simp[Value.oneCell',Rc.encR]) oK oQ oW ?_);intro v' w8 hown8 hg8 hnil8)))
    go_roundw
    case rel=>exact⟨k+1,T++[(x,fa,fc)],hlt,by go_num,HT,by simp;omega,J (by rw[List.length_append,List.flatMap_append];simpa using hown8),hFX,(hbU.alloc hbUs _).grown hg8 oW (fun i hi=>(HOU.out.lt i hi).1)⟩
    case measure=>simp[intOf];omega
   ·rw[decide_eq_false hin]at CC;rw[if_neg hin,List.append_nil]at hst;have HC:=zik;have HT:Hid (T.map (·.1)=(l.take (k+1)).filter fun r=>decide (r.id∈ids)):=J (by rw[hst,<- hT.out]);clear CC hst hin hT;go_wp2_with (go_at_call 40;(with_reducible refine HC.out.mono ?_);rintro e w7 ⟨rfl,rfl⟩);go_roundw
    case rel=>exact⟨k+1,T,hlt,by go_num,HT,oQ,HOU,HF,hbU⟩
    case measure=>simp[intOf];omega
  ·obtain rfl:k=l.length:=oQ;have hTl:T.map (·.1)=l.filter fun r=>decide (r.id∈ids):=by rw[hT.out,At]
   obtain⟨V,hV⟩:∃ V,wr.alloc (.cells #[.func (.func 41) #[] #[]] 70)=V:=⟨_,rfl⟩;have hbV:Below W.heap.size W V:=by rw[<- hV];exact hb.alloc hbs _
   have hVs:V.heap.size=wr.heap.size+1:=by rw[<- hV];simp
   have hoV:=hown.out.alloc (.cells #[.func (.func 41) #[] #[]] 70);have q2:V.cell? ⟨wr.heap.size,0,A0⟩=A3 (.func (.func 41) #[] #[]):=by rw[<- hV];simp
   rw[hV]at hoV;have hlow:=hown.out.lt
   have SC:=recSort_c (Sr.cmpR by_ lang.data.toList) (fun x y:Rc.RT=>Sr.ltV (Sr.vals by_ lang.data.toList x.1) (Sr.vals by_ lang.data.toList y.1)) (Sr.cmpR_lt by_ lang.data.toList)
    (Sr.ord_ntr Sr.ordV fun x:Rc.RT=>Sr.vals by_ lang.data.toList x.1) (Sr.ord_asy Sr.ordV fun x:Rc.RT=>Sr.vals by_ lang.data.toList x.1) 45 #[.pointer (A3 ⟨w.heap.size,0,A0⟩),.pointer (A3 ⟨w.heap.size+1,0,A0⟩),.pointer (A3 ⟨wr.heap.size,0,A0⟩)]
    _ W.heap.size T V sr_compare_enters (fun blk hblk x hx y hy W' hF'=>by
     obtain⟨g1,g2⟩:=hlow blk hblk;have hbb:Below W.heap.size W W':=hbV.trans (hF'.below g1 oQ);obtain⟨hxl,hxf⟩:=hF.out x hx;obtain⟨hyl,hyf⟩:=hF.out y hy;exact sr_compare_c by_ lang w.heap.size (w.heap.size+1) wr.heap.size x.1 y.1 x.2.1 y.2.1 x.2.2 y.2.2 W' (HG.out.below hbb) (hxf.below hbb) (hyf.below hbb) (HR.out x.1 hxl) (HR.out y.1 hyl) ⟨A4 hbb HK0.out,A4 hbb HK1.out,hF'.cell oQ q2⟩) hoV oQ
   have HSC:=J SC;have HT:=J hTl;have HOV:=J hoV;clear SC hTl hT hown hF hlow hoV q2;go_wp2_with (go_at_call 44;(with_reducible refine HSC.out.mono ?_);rintro e w6 ⟨rfl,S,sa,sc,hp,hs,rfl,hfa,hg6⟩;have HP:=J hp;have HS:=J hs;have HFA:=J hfa;clear hp hs hfa);have hlen:T.length=S.length:=HP.out.length_eq.symm;have hb6:Below W.heap.size W w6:=hbV.grown hg6 oQ (fun i hi=>(HOV.out.lt i hi).1);have hb6s:=hb6.size;have hcap2:=HFA.out.cap;have hmax2:=HFA.out.max;have HFIN:=J (Sr.order_rt HT.out HP.out HS.out HN.out);have hSl:S.length<=12:=oQ;clear hlen;go_loopw [13,36] (fun v i wr=>∃ (k:Nat),k<=S.length/\i=.int .i64 k/\Hid (Bq wr w6.heap.size v ((S.take k).map (·.1.id)))/\Below w6.heap.size w6 wr) (fun _ i _=>S.length - (intOf i).toNat)
   case atStart=>exact⟨0,Nat.zero_le _,rfl,J (AI _ _ _ _),Below.refl _ _⟩
   case round =>
    obtain⟨k,hk,rfl,hown2,hb7⟩:=hrel;have hb7s:=hb7.size;by_cases hlt:k<S.length
    ·obtain⟨t,ht⟩:∃ t,S[k]?=A3 t:=⟨_,List.getElem?_eq_getElem hlt⟩;obtain⟨b,o,rfl,hbl,hc⟩:=(HFA.out.below hb7).get ht;have e0:=hc 0 _ rfl;have e1:=hc 1 _ rfl;have e2:=hc 2 _ rfl;have e3:=hc 3 _ rfl;have e4:=hc 4 _ rfl;rw[Nat.add_zero]at e0;have htk:(S.take (k+1)).map (·.1.id)=(S.take k).map (·.1.id)++[t.1.id]:=by rw[Cz,ht,AY];rfl
     have hkl:((S.take k).map (·.1.id)).length=k:=by rw[Ax,List.length_take];omega
     obtain⟨L,hL⟩:∃ L,(S.take k).map (·.1.id)=L:=⟨_,rfl⟩;rw[hL]at htk hkl hown2;have HTK:=J htk;have HKL:=J hkl;have HO2:=J (hown2.out.alloc (.cells #[.int .i64 t.1.id,.int .i64 t.1.ver,.int .i64 t.1.kind,.string t.1.lang,.slice t.2.1 t.1.fields.length t.2.2] 51));clear htk hkl hL hc ht hown2;go_wp2_with (at_builtin;go_must ((refine wpList_append_sl rfl _ _ 35 rfl w6.heap.size 3 i1 _ 1 8 Tryz.underlying35 HI1.out hy0 hy1 hy2 rfl oX _ L.length _ rfl (HO2.out.alloc _) (A3 ⟨_,0,A0⟩) 1 1 [B3 .i64 t.1.id] rfl rfl oF oD oG zta (by have:=HKL.out;omega) oW ?_);intro v' w8 hown8 hg8 hnil8));go_roundw
     case rel=>exact⟨k+1,hlt,by go_num,J YY,((hb7.alloc hb7s _).alloc oW _).grown hg8 oW (fun i hi=>(HO2.out.lt i hi).1)⟩
     case measure=>simp[intOf];omega
    ·obtain rfl:k=S.length:=oQ;have hfin:(S.take S.length).map (·.1.id)=Sr.order l ids by_ lang.data.toList:=by rw[At];exact HFIN.out
     have HFI:=zrt;clear hfin;go_wp2;go_ret;exact⟨_,rfl,Sr.ownI_le (by rw[<- HFI.out];exact hown2.out) (by have:=HWS.out;omega),Tx.step hB (hb6.trans (hb7.mono oQ))⟩
section
open Go.Shelf
namespace Sr
def In64 (x:Int):Prop:=-9223372036854775808<=x/\x<=9223372036854775807
abbrev I64:={ x:Int // In64 x }
instance:Inhabited I64:=⟨⟨0,by unfold In64;omega⟩⟩
theorem grown_below {w w':Ab} (h:Below w.heap.size w w') (r:Option Nat):w.grownBy w' r:=⟨h.os,h.tape,h.output,h.size,fun k hk _=>h.block k hk⟩
theorem grown_sort {α:Type} [Inhabited α] {enc:α->Ak}{w:Ab}{g m:Nat}{d:Array α}{os:Array Obj}:w.grownBy (sortWorld enc w g 0 m d os) (A3 g):=by
 refine World.grownBy.trans (grownBy_put (enc:=enc) (w:=w) (g:=g) (q:=m) (d:=d)) ?_
 exact grown_below (by
  have h:=below_grown (Sort.putRow enc (Sort.ahead w m) g 0 d) 0 os;exact h) _
theorem attach_map {xs:List Int} (h:∀ x∈xs,In64 x):∃ zs:List I64,zs.map (·.1)=xs:=by
 refine⟨xs.pmap (fun x hx=>⟨x,hx⟩) h,?_⟩;rw[List.map_pmap];exact List.pmap_eq_map .. |>.trans (List.map_id _)
end Sr
theorem idxI_nil_c (g:Nat) (lb:Array Ak) (c:Nat) (w:Ab) :
  Af A8 152 #[.slice A0 0 c,.func (.func g) #[] lb] w fun e w'=>e=.returned (.int .i64 (-1))/\w'=w:=by
 go_enter Tryz.func152,Tryz.ntmps152;go_wp2;go_loopg [5,8] 0 (fun gg _ s8 wr=>s8=.int .i64 0/\wr=w)
 case atStart=>exact⟨rfl,rfl⟩
 case round =>
  obtain⟨rfl,rfl⟩:=hrel;go_wp2;go_ret;exact⟨rfl,rfl⟩
theorem delI_nil_c (g:Nat) (lb:Array Ak) (w:Ab) :
  Af A8 85 #[.slice A0 0 0,.func (.func g) #[] lb] w fun e w'=>e=.returned (.slice A0 0 0)/\w'=w:=by
 have HI:=J (idxI_nil_c g lb 0 w);go_enter Tryz.func85,Tryz.ntmps85;go_wp2_with (go_at_call 152;(with_reducible refine HI.out.mono ?_);rintro e w1 ⟨rfl,rfl⟩);go_ret;exact⟨rfl,rfl⟩
theorem delI_c (g:Nat) (lb:Array Ak) (eg:∀ args w,(callFunc g args).run A8 w=.ok (.enter g args) w) (p:Int->Bool) (xs:List Int) (v:Ak) (B:Nat) (w:Ab) (ho:Bq w B v xs) (hr:∀ x∈xs,Sr.In64 x) (hl:xs.length<=1000000000000)
  (hp:∀ x,Sr.In64 x->∀ W,w.grownBy W v.ownBlock->Af A8 g (#[.int .i64 x]++lb) W fun e w'=>e=.returned (.bool (p x))/\∃ q,w'=W.drewN q) :
  Af A8 85 #[v,.func (.func g) #[] lb] w fun e w'=>∃ v',e=.returned v'/\Bq w' B v' (xs.filter fun x=>!p x)/\v'.ownBlock=v.ownBlock/\w.grownBy w' v.ownBlock:=by
 by_cases hnil:v=.slice A0 0 0
 ·subst hnil
  have h0:xs=[]:=by
   rcases ho.2 with⟨_,h0⟩ | ⟨g,cap,cur,e0,_⟩
   ·exact List.eq_nil_of_length_eq_zero h0
   ·cases e0
  subst h0;refine (delI_nil_c g lb w).mono fun e w' ⟨he,hw⟩=>?_;subst hw;exact⟨_,he,AI _ _ _ _,rfl,⟨rfl,rfl,rfl,Nat.le_refl _,fun _ _ _=>rfl⟩⟩
 ·obtain⟨zs,rfl⟩:=Sr.attach_map hr
  have ho2:w.ownsRow B 3 1 v (zs.map (·.1)).length (zs.map fun x:Sr.I64=>B3 .i64 x.1):=by
   have:=ho;unfold Bq at this;rw[DF]at this;exact this
  rw[Ax]at ho2 hl;obtain⟨blk,cap,rfl,hbg,hgl,hncap,hcm,hlen,hH⟩:=Lib.holds_of_ownsRow (enc:=fun x:Sr.I64=>B3 .i64 x.1) ho2 hnil;have hO:OneCell (fun x:Sr.I64=>B3 .i64 x.1):=by intro _;rfl
  have HP:PredAt A8 g lb (fun x:Sr.I64=>B3 .i64 x.1) (fun x=>p x.1) w:=fun W x hW=>hp x.1 x.2 W (Sr.grown_below hW _);have HO:PredOver A8 g lb (fun x:Sr.I64=>B3 .i64 x.1) (fun x=>p x.1) blk 0 zs.toArray.size w:=fun n os dk x _=>hp x.1 x.2 _ Sr.grown_sort;have hx:=AnyE.slices_DeleteFunc Tryz.delI (fun x:Sr.I64=>B3 .i64 x.1) hO (fun x=>p x.1) g lb eg ⟨0,by unfold Sr.In64;omega⟩ (fun w=>Tryz.zeroValue3 w) blk 0 cap zs.toArray w HP HO hH oW (by simpa using hncap);have hsz:zs.toArray.size=zs.length:=oZ;rw[hsz]at hx;have e1:(zs.map (·.1)).filter (fun x=>!p x)=(zs.filter fun x=>!p x.1).map (·.1):=by rw[List.filter_map];rfl
  refine hx.mono fun e w' ⟨he,q,hw⟩=>?_;subst hw;have hle:(zs.filter fun x=>!p x.1).length<=zs.length:=List.length_filter_le _ _;have hc:=Lib.ownsRow_putRow (enc:=fun x:Sr.I64=>B3 .i64 x.1) (q:=q) (k:=(zs.filter fun x=>!p x.1).length) (ys:=(zs.filter fun x=>!p x.1)++List.replicate (zs.length - (zs.filter fun x=>!p x.1).length) ⟨0,by unfold Sr.In64;omega⟩) ho2 oW hle;rw[List.take_left]at hc;refine⟨_,he,?_,rfl,grownBy_put⟩;unfold Bq;rw[e1,DF,Ax];exact hc
end
end Go.Proofs.YtlakomilichhnaaGreatDoor
