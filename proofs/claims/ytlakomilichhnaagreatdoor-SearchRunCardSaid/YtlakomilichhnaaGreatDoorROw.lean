/- Parts. -/
import Derived.Test.YtlakomilichhnaaGreatDoorROv
namespace Go.Proofs.YtlakomilichhnaaGreatDoor
set_option maxHeartbeats 25600000
set_option maxRecDepth 100000
open Go.RowKit
open Go renaming Calls->Af,World->Ab
open Lib renaming hid->J,indexByte->Cx,size_eq->Ao
open List renaming append_assoc->AW,flatMap_append->AR,length_append->Ag,length_drop->Ay,length_take->Az,take_succ_cons->El
open Nat renaming le_refl->Ad
open Option renaming none->A0,some->A3
open Proofs.Tryz renaming func54->La,ntmps54->Ka,prog->A8,results54->J7,underlying126->Iw
open Qr renaming QC->D6,Qy->Cq,Tok->AM,encQ->Bb,ext_eq->LI,pOr->DN,parse->BI,q0_c->JD,rightE->GH,sgn->JT,t0->Gz,tokF->JB,tokens->Bm
open RowKit renaming Below->Aa
open Tx renaming blk->A7,blk_far->As,blk_set->BW,newb->A9,put6->DK,valid->AE
variable {P:Prop}
theorem info_tok:(A8.info? 205).map (fun i=>(i.zero,i.size,i.bytes))=A3 (A3 (.agg #[.int .u8 0,.string ⟨#[]⟩,.bool false]),3,32):=by kernel_rfl
theorem Qr.idx_c {s:ByteArray}{k:Nat}:Cx (s.extract (k+1) s.size).data.toList 34=Cx (s.data.toList.drop (k+1)) 34:=by
 rw[Lib.extract_data,List.take_of_length_le (by rw[Ay,Ao];exact Ad _)]
theorem y8g (h:P:=by
 go_region;obtain⟨W8,hW8⟩:∃ W8,W8=((W6.setCell ⟨wo.heap.size,0,A0⟩ (.int .u8 114)).setCell ⟨wo.heap.size,1,A0⟩ (.string (s.extract k N))).drew:=⟨_,rfl⟩
 have k8:W8.heap[wo.heap.size]?=A3 (.cells #[.int .u8 114,.string (s.extract k N),.bool gl] 205 (0,0)):=by
  rw[hW8];have:=BW (i:=1) (BW (i:=0) k6 (.int .u8 114)) (.string (s.extract k N));exact (by simpa using this:((W6.setCell ⟨wo.heap.size,0,A0⟩ (.int .u8 114)).setCell ⟨wo.heap.size,1,A0⟩ (.string (s.extract k N))).heap[wo.heap.size]?=A3 (.cells #[.int .u8 114,.string (s.extract k N),.bool gl] 205 (0,0)))
 have own8:=zdh;have b8:Aa w.heap.size w W8:=by rw[hW8];exact (((hb.trans (b6.mono hb.size)).setCell (show w.heap.size<=wo.heap.size by omega) _).setCell (show w.heap.size<=wo.heap.size by omega) _).drew
 have s8:=b8.size;rw[<- hW8];clear hW8 own6 b6 k6 c60 c61 c62 f6 l6;obtain⟨c8,f8,l8⟩:=A7 k8;have c80:=c8 0;have c81:=c8 1;have c82:=c8 2;clear c8;go_wp2_with (at_builtin;go_must (refine wpList_append_sl rfl _ _ 126 rfl w.heap.size 205 i0 _ 3 32 Iw HI.out hz0 hz1 hz2 rfl oX _ out.length _ rfl (own8.alloc _) (A3 ⟨_,0,A0⟩) 1 1 [.int .u8 114,.string (s.extract k N),.bool gl] rfl rfl oF oD oG oK oQ oW ?_);intro v' w7 hown7 hg7 hnil7);go_roundw
 case rel=>exact⟨k+n,_,true,hn2,by go_num,rfl,HN,by rw[Ag];simp;omega,by rw[Ag,AR];have h9:=hown7;rw[<- HXE.out]at h9;exact h9,(b8.alloc oQ _).grown hg7 oW (fun j hj=>(hown.lt j hj).1)⟩
 case measure=>simp[intOf];omega):P:=h
theorem yay (h:P:=by
 go_roundw
 case rel=>exact⟨k+1,_,true,hlt,by go_num,rfl,HN,by rw[Ag];simp;omega,by rw[Ag,AR];exact hown7,((hb.trans ((A9 _ _).mono hb.size)).trans ((A9 _ _).mono oW)).grown hg7 oW (fun j hj=>(hown.lt j hj).1)⟩
 case measure=>simp[intOf];omega):P:=h
theorem tokens_c (s:ByteArray) (w:Ab) (hs:s.size<=100000) :
  Af A8 116 #[.string s] w fun e w'=>∃ v,e=.returned v/\w'.ownsRow w.heap.size 205 3 v (Bm s.data.toList).length ((Bm s.data.toList).flatMap Qr.encT)/\Aa w.heap.size w w':=by
 obtain⟨i0,hi0,hz0,hz1,hz2⟩:=info_parts info_tok;have HI:=J hi0;clear hi0;go_enter Tryz.func116,Tryz.ntmps116;go_wp2;go_loopw [3,4,5] (fun v gv i wr=>∃ (k:Nat) (out:List AM) (gl:Bool),k<=s.size/\i=.int .i64 k/\gv=.bool gl/\Hid (out++JB gl (s.data.toList.drop k)=Bm s.data.toList)/\out.length<=k/\wr.ownsRow w.heap.size 205 3 v out.length (out.flatMap Qr.encT)/\Aa w.heap.size w wr) (fun _ _ i _=>s.size - (intOf i).toNat)
 case atStart=>exact⟨0,[],false,Nat.zero_le _,rfl,rfl,J aD,Nat.zero_le _,World.ownsRow_nil _ _ _ _,Below.refl _ _⟩
 case round =>
  obtain⟨k,out,gl,hk,rfl,rfl,hT,hol,hown,hb⟩:=hrel;have hbs:=hb.size;by_cases hlt:k<s.size
  ·have hdr:=Qr.drop_at hlt;obtain⟨c,hc⟩:=zqc;rw[hc]at hdr;have hcc:=zqd;clear hc;have HT:=J hT.out;rw[hdr]at HT;have HT2:=J HT.out;clear HT hT hdr;by_cases c32:c=32
   ·subst c32;have HN:=zei;go_wp2;go_roundw
    case rel=>exact⟨k+1,out,false,hlt,by go_num,rfl,HN,oQ,hown.alloc _,hb.trans ((A9 _ _).mono hb.size)⟩
    case measure=>simp[intOf];omega
   ·have n32:=zht;by_cases csg:c=40\/c=41\/c=58\/c=42
    ·have HN:Hid ((out++[⟨c,[],gl⟩])++JB true (s.data.toList.drop (k+1))=Bm s.data.toList):=J (by rw[<- HT2.out,Qr.tokF_sign gl _ csg,AW];rfl);clear c32 n32;rcases csg with rfl | rfl | rfl | rfl
     all_goals
      go_wp2_with (at_builtin;go_must (refine wpList_append_sl rfl _ _ 126 rfl w.heap.size 205 i0 _ 3 32 Iw HI.out hz0 hz1 hz2 rfl oX _ out.length _ rfl ((hown.alloc _).alloc _) (A3 ⟨_,0,A0⟩) 1 1 [.int .u8 _,.string ⟨#[]⟩,.bool gl] rfl rfl oF oD oG oK oQ oW ?_);intro v' w7 hown7 hg7 hnil7);exact yay
    ·by_cases c34:c=34
     ·subst c34;have hIX:=Qr.idx_c (s:=s) (k:=k);clear csg c32 n32;rcases Sp.indexByte_cut 34 (s.data.toList.drop (k+1)) with⟨h1,h2⟩ | ⟨i,h1,h2⟩
      ·have HN:Hid ((out++[⟨34,[],gl⟩])++JB true (s.data.toList.drop (k+1))=Bm s.data.toList):=J (by rw[<- HT2.out,Qr.tokF_open gl _ h2,AW];rfl);rw[h1]at hIX;have HIX:=J hIX;clear hIX h1 h2
       go_wp2_with (first
        |(at_builtin;go_must (refine wpList_append_sl rfl _ _ 126 rfl w.heap.size 205 i0 _ 3 32 Iw HI.out hz0 hz1 hz2 rfl oX _ out.length _ rfl ((hown.alloc _).alloc _) (A3 ⟨_,0,A0⟩) 1 1 [.int .u8 _,.string ⟨#[]⟩,.bool gl] rfl rfl oF oD oG oK oQ oW ?_);intro v' w7 hown7 hg7 hnil7)
        |(go_at_call 185;refine (Tryz.strings_IndexByte _ 34 _).mono ?_;rintro e w5 ⟨rfl,rfl⟩;rw[show (34:Int).toNat.toUInt8=34 from rfl,HIX.out]))
       exact yay
      ·have hil:k+1+i<s.size:=by
        have:=(Lib.indexByte_some h1).1;have:=(List.getElem?_eq_some_iff.1 this).1;rw[Ay,<- Ao]at this;omega
       have HN:Hid ((out++[⟨113,(s.data.toList.drop (k+1)).take i,gl⟩])++JB true (s.data.toList.drop (k+(i+2)))=Bm s.data.toList):=J (by rw[<- HT2.out,Qr.tokF_quote gl _ h2,AW,List.drop_drop,show k+1+(i+1)=k+(i+2) by omega];rfl);have hxe:=LI s (k+1) (k+1+i);rw[Nat.add_sub_cancel_left]at hxe;have HXE:=J hxe;clear hxe;rw[h1]at hIX;have HIX:=J hIX;clear hIX h1 h2;have hw1:=zcw;have hw2:=IntWalk.i64_in ((k:Int)+1+(i:Int)) ⟨oQ,oQ⟩;have hw3:=IntWalk.i64_in ((i:Int)+2) ⟨oQ,oQ⟩
       go_wp2_with (first
        |(go_at_call 185;refine (Tryz.strings_IndexByte _ 34 _).mono ?_;rintro e w5 ⟨rfl,rfl⟩;rw[show (34:Int).toNat.toUInt8=34 from rfl,HIX.out]))
       obtain⟨W6,hW6⟩:∃ W6,W6=wr.alloc (.cells #[.int .u8 34,.string ⟨#[]⟩,.bool gl] 205):=⟨_,rfl⟩;have k6:W6.heap[wr.heap.size]?=A3 (.cells #[.int .u8 34,.string ⟨#[]⟩,.bool gl] 205 (0,0)):=by rw[hW6];exact heap_alloc_new _ _
       have b6:Aa wr.heap.size wr W6:=by rw[hW6];exact A9 _ _
       have own6:=zqv;rw[<- hW6];clear hW6;obtain⟨c6,f6,l6⟩:=A7 k6;have c60:=c6 0;have c61:=c6 1;have c62:=c6 2;clear c6;have hne6:∀ b,u3.ownBlock=A3 b->b≠wr.heap.size:=fun b hb=>by have:=(hown.lt b hb).2;omega
       have HNE:=J hne6;clear hne6;go_region;obtain⟨W8,hW8⟩:∃ W8,W8=((W6.setCell ⟨wr.heap.size,0,A0⟩ (.int .u8 113)).setCell ⟨wr.heap.size,1,A0⟩ (.string (s.extract (k+1) (k+1+i)))).drew:=⟨_,rfl⟩
       have k8:W8.heap[wr.heap.size]?=A3 (.cells #[.int .u8 113,.string (s.extract (k+1) (k+1+i)),.bool gl] 205 (0,0)):=by
        rw[hW8];have:=BW (i:=1) (BW (i:=0) k6 (.int .u8 113)) (.string (s.extract (k+1) (k+1+i)));exact (by simpa using this:((W6.setCell ⟨wr.heap.size,0,A0⟩ (.int .u8 113)).setCell ⟨wr.heap.size,1,A0⟩ (.string (s.extract (k+1) (k+1+i)))).heap[wr.heap.size]?=A3 (.cells #[.int .u8 113,.string (s.extract (k+1) (k+1+i)),.bool gl] 205 (0,0)))
       have own8:=zdh;have b8:Aa w.heap.size w W8:=by rw[hW8];exact (((hb.trans (b6.mono hb.size)).setCell (show w.heap.size<=wr.heap.size by omega) _).setCell (show w.heap.size<=wr.heap.size by omega) _).drew
       have s8:=b8.size;rw[<- hW8];clear hW8 own6 b6 k6 c60 c61 c62 f6 l6;obtain⟨c8,f8,l8⟩:=A7 k8;have c80:=c8 0;have c81:=c8 1;have c82:=c8 2;clear c8;go_wp2_with (at_builtin;go_must (refine wpList_append_sl rfl _ _ 126 rfl w.heap.size 205 i0 _ 3 32 Iw HI.out hz0 hz1 hz2 rfl oX _ out.length _ rfl (own8.alloc _) (A3 ⟨_,0,A0⟩) 1 1 [.int .u8 113,.string (s.extract (k+1) (k+1+i)),.bool gl] rfl rfl oF oD oG oK oQ oW ?_);intro v' w7 hown7 hg7 hnil7);go_roundw
       case rel=>exact⟨k+(i+2),_,true,oQ,by go_num,rfl,HN,by rw[Ag];simp;omega,by rw[Ag,AR];have h9:=hown7;rw[<- HXE.out]at h9;exact h9,(b8.alloc oQ _).grown hg7 oW (fun j hj=>(hown.lt j hj).1)⟩
       case measure=>simp[intOf];omega
     ·have hns:JT c=false:=by
       unfold JT;simp only[Bool.or_eq_false_iff,beq_eq_false_iff_ne];exact⟨⟨⟨⟨⟨c32,fun h=>csg (.inl h)⟩,fun h=>csg (.inr (.inl h))⟩,fun h=>csg (.inr (.inr (.inl h)))⟩,fun h=>csg (.inr (.inr (.inr h)))⟩,c34⟩
      have n40:((c.toNat:Int) == 40)=false:=beq_eq_false_iff_ne.2 (Qr.kn (n:=40) oX (fun h=>csg (.inl h)));have n41:((c.toNat:Int) == 41)=false:=beq_eq_false_iff_ne.2 (Qr.kn (n:=41) oX (fun h=>csg (.inr (.inl h))));have n58:((c.toNat:Int) == 58)=false:=beq_eq_false_iff_ne.2 (Qr.kn (n:=58) oX (fun h=>csg (.inr (.inr (.inl h)))));have n42:((c.toNat:Int) == 42)=false:=beq_eq_false_iff_ne.2 (Qr.kn (n:=42) oX (fun h=>csg (.inr (.inr (.inr h)))));have n34:=zhu;have HNS:=J hns;clear hns csg c34 c32;have HDR:Hid (s.data.toList.drop k=c::s.data.toList.drop (k+1)):=J (by rw[Qr.drop_at hlt,hcc]);generalize wr=wo at *;go_wp2;obtain⟨W6,hW6⟩:∃ W6,W6=wo.alloc (.cells #[.int .u8 c.toNat,.string ⟨#[]⟩,.bool gl] 205):=⟨_,rfl⟩;have k6:W6.heap[wo.heap.size]?=A3 (.cells #[.int .u8 c.toNat,.string ⟨#[]⟩,.bool gl] 205 (0,0)):=by rw[hW6];exact heap_alloc_new _ _
      have b6:=zib;have own6:=zqv;rw[<- hW6];clear hW6;have HNE:Hid (∀ b,u3.ownBlock=A3 b->b≠wo.heap.size):=J (fun b hb=>by have:=(hown.lt b hb).2;omega);go_loopw [7] (fun nv wr=>∃ n:Nat,1<=n/\k+n<=s.size/\nv=.int .i64 n/\Hid (∀ j,1<=j->j<n->∀ h:k+j<s.size,JT (s[k+j]'h)=false)/\wr=W6) (fun nv _=>s.size - (intOf nv).toNat)
      case atStart=>exact⟨1,oQ,hlt,rfl,J (fun j h1 h2=>oQ),rfl⟩
      case round =>
       obtain⟨n,hn1,hn2,rfl,hin,hwr⟩:=hrel;have hwr':W6=wr:=hwr.symm;clear hwr;subst hwr';obtain⟨c6,f6,l6⟩:=A7 k6;have c60:=c6 0;have c61:=c6 1;have c62:=c6 2;clear c6;obtain⟨N,hN⟩:∃ N,k+n=N:=⟨_,rfl⟩;have hNi:(k:Int)+(n:Int)=(N:Int):=oQ;have hw:=IntWalk.i64_in (N:Int) ⟨oQ,oQ⟩;have hNk:(k:Int)<=(N:Int):=oQ;have hNs:=zql;by_cases hlt2:N<s.size
       ·have hltk:k+n<s.size:=oQ;obtain⟨d,hd⟩:=zrv;have hkd:∀ h:k+n<s.size,s[k+n]'h=d:=fun h=>by rw[<- hd];congr 1
        have HKD:=J hkd;clear hkd;have hdd:∀ h,s[N]'h=d:=fun _=>hd;clear hd
        have hix:Cx (⟨#[32,40,41,58,42,34]⟩:ByteArray).data.toList (d.toNat:Int).toNat.toUInt8=Cx [32,40,41,58,42,34] d:=by
         rw[Int.toNat_natCast];congr 1;exact UInt8.ofNat_toNat
        obtain⟨IX,hIX⟩:∃ IX,Cx [32,40,41,58,42,34] d=IX:=⟨_,rfl⟩;have hsi:=Qr.sgn_index d;rw[hIX]at hix hsi;have HIX:=J hix;clear hix hIX;cases hsd:JT d with
        | false =>
         have hix0:IX<0:=hsi.2 hsd
         have HI2:Hid (∀ j,1<=j->j<n+1->∀ h:k+j<s.size,JT (s[k+j]'h)=false):=J (fun j h1 h2 h=>by
          by_cases hj:j<n
          ·exact hin.out j h1 hj h
          ·obtain rfl:j=n:=oQ;rw[HKD.out];exact hsd)
         clear hsi hsd;go_wp2_with (go_at_call 185;refine (Tryz.strings_IndexByte ⟨#[32,40,41,58,42,34]⟩ (d.toNat:Int) _).mono ?_;rintro e w5 ⟨rfl,hw5⟩;have hw5':=hw5.symm;clear hw5;subst hw5';rw[HIX.out]);go_roundw
         case rel=>exact⟨n+1,oQ,oQ,by go_num,HI2,by first | trivial | rfl⟩
         case measure=>simp[intOf];omega
        | true =>
         have hix0:¬ IX<0:=fun h=>by rw[hsi.1 h]at hsd;cases hsd
         have HO:∀ h:k+n<s.size,JT (s[k+n]'h)=true:=fun h=>by rw[HKD.out];exact hsd
         clear hsi hsd;have hre:=zos
         have hrl:(Qr.run (s.data.toList.drop (k+1))).length=n - 1:=by
          rw[hre,Az,Ay,<- Ao];omega
         have HN:=zar;have hxe:=LI s k N;rw[HDR.out,show N - k=(n - 1)+1 by omega,El,<- hre]at hxe;have HXE:=J hxe;clear hxe hrl hre;go_wp2_with (go_at_call 185;refine (Tryz.strings_IndexByte ⟨#[32,40,41,58,42,34]⟩ (d.toNat:Int) _).mono ?_;rintro e w5 ⟨rfl,hw5⟩;have hw5':=hw5.symm;clear hw5;subst hw5';rw[HIX.out]);exact y8g
       ·have HO:∀ h:k+n<s.size,JT (s[k+n]'h)=true:=fun h=>oQ;have hre:=zos
        have hrl:(Qr.run (s.data.toList.drop (k+1))).length=n - 1:=by
         rw[hre,Az,Ay,<- Ao];omega
        have HN:=zar;have hxe:=LI s k N;rw[HDR.out,show N - k=(n - 1)+1 by omega,El,<- hre]at hxe;have HXE:=J hxe;clear hxe hrl hre;go_wp2;exact y8g
  ·go_wp2;go_ret;have hd:=zer;have:=hT.out;rw[hd,Qr.tokF_nil,List.append_nil]at this;rw[<- this];exact⟨_,rfl,hown,hb⟩
theorem catch_panic (a b:Nat) (u:TypeId) (pv v0 v1 v2 v3 v4 v5 v6:Value) (older:List PanicEntry) (w:Ab)
  (h0:w.cell? ⟨a,0,A0⟩=A3 v0) (h1:w.cell? ⟨a,1,A0⟩=A3 v1) (h2:w.cell? ⟨a,2,A0⟩=A3 v2) (h3:w.cell? ⟨a,3,A0⟩=A3 v3) (h4:w.cell? ⟨a,4,A0⟩=A3 v4) (h5:w.cell? ⟨a,5,A0⟩=A3 v5) (h6:w.cell? ⟨b,0,A0⟩=A3 v6)
  (hf:∀ i,w.frozen? ⟨a,i,A0⟩=false) (hg:∀ i,w.frozen? ⟨b,i,A0⟩=false) (hba:¬ b=a) :
  CallsD A8 115 #[.pointer (A3 ⟨a,0,A0⟩),.pointer (A3 ⟨b,0,A0⟩)] (.panicking ({ v:=.iface u pv,recovered:=false }::older)) w fun e u' w' =>
   e=.returned (.tuple #[])/\u'=.panicking ({ v:=.iface u pv,recovered:=true }::older)/\w'=(((((((w.setCell ⟨a,0,A0⟩ (.int .i64 0)).setCell ⟨a,1,A0⟩ (.int .i64 0)).setCell ⟨a,2,A0⟩ (.slice A0 0 0)).setCell ⟨a,3,A0⟩ (.int .i64 0)).setCell ⟨a,4,A0⟩ (.int .i64 0)).setCell ⟨a,5,A0⟩ (.slice A0 0 0)).setCell ⟨b,0,A0⟩ (.int .i64 3)):=by
 refine callsD_of_wpS Tryz.func115 rfl fun c₀ cs hu=>?_;apply wpS_seq;apply wpS_region;simp[wpOpsS,go_sem,recoverD,hu,Tryz.ntmps115,Exit.thenS];refine wpS_cond (t:=true) zte ?_;simp only[if_true];apply wpS_region;simp[wpOpsS,go_sem,h0,h1,h2,h3,h4,h5,h6,hf,hg,bodyPostS,results,Tryz.results115]
theorem catch_idle (a b:Nat) (w:Ab) :
  CallsD A8 115 #[.pointer (A3 ⟨a,0,A0⟩),.pointer (A3 ⟨b,0,A0⟩)] .returning w fun e u' w'=>e=.returned (.tuple #[])/\u'=.returning/\w'=w:=by
 refine callsD_of_wpS Tryz.func115 rfl fun c₀ cs hu=>?_;apply wpS_seq;apply wpS_region;simp[wpOpsS,go_sem,recoverD,hu,Tryz.ntmps115,Exit.thenS];refine wpS_cond (t:=false) zte ?_;simp only[Bool.false_eq_true,if_false];refine wpS_of_wp (wp_skip ?_);cases c₀
 simp_all [bodyPostS,results,Tryz.results115]
theorem Parse_1 (s:ByteArray) (w:Ab) (hl:1000<s.size) :
  Af A8 54 #[.string s] w fun e w'=>∃ t,e=.returned (.tuple #[.agg (Bb t).toArray,.int .i64 (BI s.data.toList).2])/\D6 w.heap.size w' (BI s.data.toList).1 (Bb t)/\Aa w.heap.size w w':=by
 rw[Qr.parse_long aY];have g1:(1000:Int)<(s.size:Int):=oQ;have hmf:=za;go_enter_defers La,Ka;go_wp2;exact⟨.tuple #[.agg (Bb Gz).toArray,.int .i64 4],(by simp[results,J7,go_sem]),Gz,rfl,JD _ _,((A9 w _).trans ((A9 _ _).mono oZ))⟩
theorem Parse_2 (s:ByteArray) (w:Ab) (hl:¬ 1000<s.size) (hv:AE s.data.toList=false) (hG:G w) :
  Af A8 54 #[.string s] w fun e w'=>∃ t,e=.returned (.tuple #[.agg (Bb t).toArray,.int .i64 (BI s.data.toList).2])/\D6 w.heap.size w' (BI s.data.toList).1 (Bb t)/\Aa w.heap.size w w':=by
 rw[Qr.parse_bad aY hv];have g1:=zdd;have HV:=J hv;clear hv;have hmf:=za;obtain⟨W,hW⟩:=zcj;have hB:=zbu;have k2:=zat;have k3:=zab;have hWs:=zic;have K2:=J k2;have K3:=J k3;have hW':=hW.symm;clear hW k2 k3;go_enter_defers La,Ka;go_wp2_with (go_at_call 114;refine (text_Valid_c s W oQ (hG.below hB)).mono ?_;rintro e w1 ⟨rfl,hb1⟩;rw[HV.out];have J2:=zhl;have J3:=zhm;have s1:=hb1.size;obtain⟨c2,f2,l2⟩:=A7 J2.out;obtain⟨c3,f3,l3⟩:=A7 J3.out;obtain⟨x0,x1,x2,x3,x4,x5⟩:=Tx.d6 c2;have y0:w1.cell? ⟨w.heap.size+1,0,A0⟩=A3 (.int .i64 0):=c3 0;clear c2 c3);exact⟨.tuple #[.agg (Bb Gz).toArray,.int .i64 3],qF,Gz,rfl,JD _ _,(DK (hB.trans (hb1.mono hB.size)) (Ad _) _ _ _ _ _ _).setCell (show w.heap.size<=w.heap.size+1 by omega) _⟩
theorem Tx.own_blt {w:Ab}{B e size n m c:Nat}{ta:Option Addr}{xs:List Value} (h:w.ownsRow B e size (.slice ta n c) m xs):∀ ad,ta=A3 ad->ad.block<w.heap.size:=by
 intro ad had;rcases h.2 with⟨e1,_⟩ | ⟨g,cap,cur,e1,_,hg,_⟩
 ·injection e1 with e1;rw[e1]at had;cases had
 ·injection e1 with e1;rw[e1]at had;injection had with had;rw[<- had];exact (Array.getElem?_eq_some_iff.1 hg).1
theorem Qr.parse_none {s:List UInt8} (hl:¬ 1000<s.length) (hv:AE s=true) (hx:DN true (8*(Bm s).length+8) (Bm s)=A0):BI s=(Qr.q0,3):=by
 unfold BI;rw[if_neg hl,if_neg uJ,hx]
theorem Qr.parse_rest {s:List UInt8}{q:Cq}{t:AM}{r:List AM} (hl:¬ 1000<s.length) (hv:AE s=true) (hx:DN true (8*(Bm s).length+8) (Bm s)=A3 (q,t::r)):BI s=(Qr.q0,3):=by
 unfold BI;rw[if_neg hl,if_neg uJ,hx]
theorem Qr.parse_end {s:List UInt8}{q:Cq} (hl:¬ 1000<s.length) (hv:AE s=true) (hx:DN true (8*(Bm s).length+8) (Bm s)=A3 (q,[])):BI s=if GH q=0 then (q,0) else (Qr.q0,GH q):=by
 unfold BI;rw[if_neg hl,if_neg uJ,hx]
theorem vcz (h:P:=by
 have HX:=J hx;clear hx;have hll:=hok.2;have HOK:=J hok.1;clear hok hl';have hmf:=za;obtain⟨W,hW⟩:=zcj;have hB:=zbu;have k2:=zat;have k3:=zab;have hWs:=zic;have K2:=J k2;have K3:=J k3;have hW':=hW.symm;clear hW k2 k3
 first
  |guard_hyp q;have hlt:(A:Int)<(l.length:Int):=by
    have h1:1<=r'.length:=by cases r' with
     | nil=>exact absurd rfl hr
     | cons t r2=>simp
    omega
   clear hr hA;go_enter_defers La,Ka
   go_wp2_with (first
    |(go_at_call 117;refine ((readers w2.heap.size l oQ (8*l.length+8)).1 (8*l.length+8) l _ (Ad _) oQ hPS).mono ?_;rintro e w4 hh;rw[HX.out]at hh;obtain⟨qo,qf,qa,qb,qsa,qsn,qsc,qka,qkn,qkc,rfl,hq4,hP4,hF4⟩:=hh.get;clear hh;have s4:=hF4.size;have D2:=zed;have D3:=zdo;have HD2:=J D2;have HD3:=J D3;obtain⟨c2,f2,l2⟩:=A7 D2;obtain⟨x0,x1,x2,x3,x4,x5⟩:=Tx.d6 c2;have hb04:=zbv;clear D2 D3 c2)
    |(go_at_call 116;refine (tokens_c s w1 oQ).mono ?_;rintro e w2 ⟨v,rfl,hown,hb2⟩;rw[HL.out]at hown;obtain⟨ta,tc,rfl,hFA,hlow⟩:=zec;have hin:=zfn;clear hown hlow;have s2:=hb2.size;have ew2:=zdy;have I2:=zfo;have I3:=zfp;have hb02:=zce;have hPS:=zm;have hb03:=zbg;have s3:=zbt)
    |(go_at_call 114;refine (text_Valid_c s W oQ (hG.below hB)).mono ?_;rintro e w1 ⟨rfl,hb1⟩;rw[HV.out];have J2:=zhl;have J3:=zhm;have s1:=hb1.size))
   obtain⟨W5,hW5⟩:=zq;obtain⟨ta4,tc4,kg4,_,_⟩:=hP4.blk;rw[HA.out]at kg4;have kg5:=zao
   have kd5:W5.heap[w.heap.size]?=A3 (.cells #[.int .i64 qo,.int .i64 qf,.slice qsa qsn qsc,.int .i64 qa,.int .i64 qb,.slice qka qkn qkc] 29 (0,0)):=by
    exact yrn
   have ke5:=zax;have hb05:=zea;have hq5:=zy;rw[<- hW5];clear hW5 f2 x0 x1 x2 x3 x4 x5;obtain⟨gc,gf,_⟩:=A7 kg5;have gc0:=gc 0;have gc1:=gc 1;obtain⟨dc,df,_⟩:=A7 kd5;obtain⟨x0,x1,x2,x3,x4,x5⟩:=Tx.d6 dc;obtain⟨ec,ef,_⟩:=A7 ke5;have y0:=zhp;clear gc dc ec;have HE5:=J ke5;have HD5:=J kd5;have HQ5:=J hq5;clear ke5 kd5 kg5 hq5 kg4 hP4;go_quiet (fail);go_wp2;refine leaves_cons (f:=115) (args:=#[.pointer (A3 ⟨w.heap.size,0,A0⟩),.pointer (A3 ⟨w.heap.size+1,0,A0⟩)]) oZ (by simp[go_sem]) ?_;refine (catch_panic w.heap.size (w.heap.size+1) _ _ _ _ _ _ _ _ _ [] (W5.drewN nq) x0 x1 x2 x3 x4 x5 y0 df ef oQ).mono ?_;rintro e u' w'' ⟨rfl,rfl,rfl⟩;exact⟨.tuple #[.agg (Bb Gz).toArray,.int .i64 3],qF,Gz,rfl,JD _ _,(DK (Tx.drawn hb05 _) (Ad _) _ _ _ _ _ _).setCell (show w.heap.size<=w.heap.size+1 by omega) _⟩
  |go_enter_defers La,Ka
   go_wp2_with (first
    |(go_at_call 117;refine ((readers w2.heap.size l oQ (8*l.length+8)).1 (8*l.length+8) l _ (Ad _) oQ hPS).mono ?_;rintro e w4 hh;rw[HX.out]at hh;obtain⟨rfl,hF4⟩:=hh.bad;have s4:=hF4.size;have D2:=zed;have D3:=zdo;obtain⟨c2,f2,l2⟩:=A7 D2;obtain⟨c3,f3,l3⟩:=A7 D3;obtain⟨x0,x1,x2,x3,x4,x5⟩:=Tx.d6 c2;have y0:w4.cell? ⟨w.heap.size+1,0,A0⟩=A3 (.int .i64 0):=c3 0;have hb04:=zbv)
    |(go_at_call 116;refine (tokens_c s w1 oQ).mono ?_;rintro e w2 ⟨v,rfl,hown,hb2⟩;rw[HL.out]at hown;obtain⟨ta,tc,rfl,hFA,hlow⟩:=zec;have hin:=zfn;clear hown hlow;have s2:=hb2.size;have ew2:=zdy;have I2:=zfo;have I3:=zfp;have hb02:=zce;have hPS:=zm;have hb03:=zbg;have s3:=zbt)
    |(go_at_call 114;refine (text_Valid_c s W oQ (hG.below hB)).mono ?_;rintro e w1 ⟨rfl,hb1⟩;rw[HV.out];have J2:=zhl;have J3:=zhm;have s1:=hb1.size))
   refine leaves_cons (f:=115) (args:=#[.pointer (A3 ⟨w.heap.size,0,A0⟩),.pointer (A3 ⟨w.heap.size+1,0,A0⟩)]) oZ (by simp[go_sem]) ?_;refine (catch_panic w.heap.size (w.heap.size+1) _ _ _ _ _ _ _ _ _ [] _ x0 x1 x2 x3 x4 x5 y0 f2 f3 oQ).mono ?_;rintro e u' w'' ⟨rfl,rfl,rfl⟩;exact⟨.tuple #[.agg (Bb Gz).toArray,.int .i64 3],qF,Gz,rfl,JD _ _,(DK hb04 (Ad _) _ _ _ _ _ _).setCell (show w.heap.size<=w.heap.size+1 by omega) _⟩):P:=h
theorem Parse_3 (s:ByteArray) (w:Ab) (hl:¬ 1000<s.size) (hv:AE s.data.toList=true) (hG:G w) (hx:DN true (8*(Bm s.data.toList).length+8) (Bm s.data.toList)=A0) :
  Af A8 54 #[.string s] w fun e w'=>∃ t,e=.returned (.tuple #[.agg (Bb t).toArray,.int .i64 (BI s.data.toList).2])/\D6 w.heap.size w' (BI s.data.toList).1 (Bb t)/\Aa w.heap.size w w':=by
 have hok:=zqw;have hl':¬ 1000<s.data.toList.length:=by rw[<- Ao];exact hl
 have g1:=zdd;rw[Qr.parse_none hl' hv hx];have HV:=J hv;clear hv;obtain⟨l,hL⟩:=zgp;rw[hL]at hx hok;have HL:=J hL;clear hL;exact vcz
theorem yrn (h:P:=by
 rw[hW5];exact (by simpa using BW (i:=5) (BW (i:=4) (BW (i:=3) (BW (i:=2) (BW (i:=1) (BW (i:=0) HD2.out (.int .i64 qo)) (.int .i64 qf)) (.slice qsa qsn qsc)) (.int .i64 qa)) (.int .i64 qb)) (.slice qka qkn qkc):((((((w4.setCell ⟨w.heap.size,0,A0⟩ (.int .i64 qo)).setCell ⟨w.heap.size,1,A0⟩ (.int .i64 qf)).setCell ⟨w.heap.size,2,A0⟩ (.slice qsa qsn qsc)).setCell ⟨w.heap.size,3,A0⟩ (.int .i64 qa)).setCell ⟨w.heap.size,4,A0⟩ (.int .i64 qb)).setCell ⟨w.heap.size,5,A0⟩ (.slice qka qkn qkc)).heap[w.heap.size]?=A3 (.cells #[.int .i64 qo,.int .i64 qf,.slice qsa qsn qsc,.int .i64 qa,.int .i64 qb,.slice qka qkn qkc] 29 (0,0)))):P:=h
theorem Parse_4 (s:ByteArray) (w:Ab) (hl:¬ 1000<s.size) (hv:AE s.data.toList=true) (hG:G w) (q:Cq) (r':List AM) (hx:DN true (8*(Bm s.data.toList).length+8) (Bm s.data.toList)=A3 (q,r')) (hr:r'≠[]) :
  Af A8 54 #[.string s] w fun e w'=>∃ t,e=.returned (.tuple #[.agg (Bb t).toArray,.int .i64 (BI s.data.toList).2])/\D6 w.heap.size w' (BI s.data.toList).1 (Bb t)/\Aa w.heap.size w w':=by
 have hok:=zqw;have hl':¬ 1000<s.data.toList.length:=by rw[<- Ao];exact hl
 have g1:=zdd
 have hpe:BI s.data.toList=(Qr.q0,3):=by
  cases r' with
  | nil=>exact absurd rfl hr
  | cons t r2=>exact Qr.parse_rest hl' hv hx
 rw[hpe];clear hpe;have HV:=J hv;clear hv;obtain⟨l,hL⟩:=zgp;rw[hL]at hx hok;have HL:=J hL;clear hL;obtain⟨A,hA⟩:∃ A,l.length - r'.length=A:=⟨_,rfl⟩;have hes:=((Qr.eats_all true (8*l.length+8)).1 l q r' hx).1.length_le;have HA:=zfe;exact vcz
theorem Parse_6 (s:ByteArray) (w:Ab) (hl:¬ 1000<s.size) (hv:AE s.data.toList=true) (hG:G w) (q:Cq) (hx:DN true (8*(Bm s.data.toList).length+8) (Bm s.data.toList)=A3 (q,[])) (E:Int) (hE:GH q=E) (hE0:E≠0) :
  Af A8 54 #[.string s] w fun e w'=>∃ t,e=.returned (.tuple #[.agg (Bb t).toArray,.int .i64 (BI s.data.toList).2])/\D6 w.heap.size w' (BI s.data.toList).1 (Bb t)/\Aa w.heap.size w w':=by
 have hok:=zqw;have hl':¬ 1000<s.data.toList.length:=by rw[<- Ao];exact hl
 have g1:=zdd;rw[Qr.parse_end hl' hv hx,hE,if_neg hE0];have HV:=J hv;clear hv;obtain⟨l,hL⟩:=zgp;rw[hL]at hx hok;have HL:=J hL;clear hL;obtain⟨A,hA⟩:=zjd;have HA:=zfe;have hnd:=(Qr.nodes_all true (8*l.length+8)).1 l q [] hx;have HND:=znq;have HWZ:=zlk;have HX:=J hx;clear hx hnd;have hll:=hok.2;have HOK:=J hok.1;clear hok hl';have hmf:=za;obtain⟨W,hW⟩:=zcj;have hB:=zbu;have k2:=zat;have k3:=zab;have hWs:=zic;have K2:=J k2;have K3:=J k3;have hW':=hW.symm;clear hW k2 k3;have hlt:=zlz;clear hA;have HE:=J hE;clear hE;have hEb:(E == 0)=false:=beq_eq_false_iff_ne.2 hE0;have hEn:(E != 0)=true:=by rw[bne,hEb];rfl
 go_enter_defers La,Ka
 go_wp2_with (first
  |(go_at_call 117;refine ((readers w2.heap.size l oQ (8*l.length+8)).1 (8*l.length+8) l _ (Ad _) oQ hPS).mono ?_;rintro e w4 hh;rw[HX.out]at hh;obtain⟨qo,qf,qa,qb,qsa,qsn,qsc,qka,qkn,qkc,rfl,hq4,hP4,hF4⟩:=hh.get;clear hh;have s4:=hF4.size;have D2:=zed;have D3:=zdo;have HD2:=J D2;have HD3:=J D3;obtain⟨c2,f2,l2⟩:=A7 D2;obtain⟨x0,x1,x2,x3,x4,x5⟩:=Tx.d6 c2;have hb04:=zbv;clear D2 D3 c2)
  |(go_at_call 116;refine (tokens_c s w1 oQ).mono ?_;rintro e w2 ⟨v,rfl,hown,hb2⟩;rw[HL.out]at hown;obtain⟨ta,tc,rfl,hFA,hlow⟩:=zec;have hin:=zfn;clear hown hlow;have s2:=hb2.size;have ew2:=zdy;have I2:=zfo;have I3:=zfp;have hb02:=zce;have hPS:=zm;have hb03:=zbg;have s3:=zbt)
  |(go_at_call 114;refine (text_Valid_c s W oQ (hG.below hB)).mono ?_;rintro e w1 ⟨rfl,hb1⟩;rw[HV.out];have J2:=zhl;have J3:=zhm;have s1:=hb1.size))
 obtain⟨W5,hW5⟩:=zq;obtain⟨ta4,tc4,kg4,_,_⟩:=hP4.blk;rw[HA.out]at kg4;have kg5:=zao
 have kd5:W5.heap[w.heap.size]?=A3 (.cells #[.int .i64 qo,.int .i64 qf,.slice qsa qsn qsc,.int .i64 qa,.int .i64 qb,.slice qka qkn qkc] 29 (0,0)):=by
  exact yrn
 have ke5:=zax;have hb05:=zea;have hq5:=zy;rw[<- hW5];clear hW5 f2 x0 x1 x2 x3 x4 x5;obtain⟨gc,gf,_⟩:=A7 kg5;have gc0:=gc 0;have gc1:=gc 1;obtain⟨dc,df,_⟩:=A7 kd5;obtain⟨x0,x1,x2,x3,x4,x5⟩:=Tx.d6 dc;obtain⟨ec,ef,_⟩:=A7 ke5;have y0:=zhp;clear gc dc ec;have HE5:=J ke5;have HD5:=J kd5;have HQ5:=J hq5;clear ke5 kd5 kg5 hq5 kg4 hP4;go_quiet (fail);have HQ5D:=zbn;have HG5:=zlt;go_wp2_with fail;refine (Right_c (w2.heap.size+1) q _ (W5.drewN nq) HQ5D.out HWZ.out UZ HG5.out).mono ?_;rintro e w6 ⟨rfl,hb6⟩;rw[HE.out];have s6:W5.heap.size<=w6.heap.size:=hb6.size;have hb06:=zjs;have KD6:=zhq;have KE6:=zhi;have hq6:=HQ5D.out.later hb6;have HQ6:=J hq6;clear hq6;obtain⟨ec6,ef6,_⟩:=A7 KE6.out;have y6:=zmn;clear ec6;go_wp2;obtain⟨W7,hW7⟩:∃ W7,W7=(w6.setCell ⟨w.heap.size+1,0,A0⟩ (.int .i64 E)):=⟨_,rfl⟩;have kd7:W7.heap[w.heap.size]?=A3 (.cells #[.int .i64 qo,.int .i64 qf,.slice qsa qsn qsc,.int .i64 qa,.int .i64 qb,.slice qka qkn qkc] 29 (0,0)):=by rw[hW7];exact As (a:=⟨w.heap.size+1,0,A0⟩) KD6.out (show w.heap.size≠w.heap.size+1 by omega) _
 have ke7:W7.heap[w.heap.size+1]?=A3 (.cells #[.int .i64 E] 44 (0,0)):=by
  rw[hW7];exact (by simpa using BW (i:=0) KE6.out (.int .i64 E):(w6.setCell ⟨w.heap.size+1,0,A0⟩ (.int .i64 E)).heap[w.heap.size+1]?=A3 (.cells #[.int .i64 E] 44 (0,0)))
 have hb07:Aa w.heap.size w W7:=by rw[hW7];exact hb06.setCell (show w.heap.size<=w.heap.size+1 by omega) _
 have hq7:D6 (w2.heap.size+1) W7 q [.int .i64 qo,.int .i64 qf,.slice qsa qsn qsc,.int .i64 qa,.int .i64 qb,.slice qka qkn qkc]:=by rw[hW7];exact HQ6.out.kp ((Qr.Kp.refl _ _).set (show w.heap.size+1<w2.heap.size+1 by omega) _)
 rw[<- hW7];clear hW7 y6 ef6;obtain⟨dc7,df7,_⟩:=A7 kd7;obtain⟨u0,u1,u2,u3,u4,u5⟩:=Tx.d6 dc7;obtain⟨ec7,ef7,_⟩:=A7 ke7;have y7:W7.cell? ⟨w.heap.size+1,0,A0⟩=A3 (.int .i64 E):=ec7 0;clear dc7 ec7;have HQ7:=J hq7;have HD7:=J kd7;have HE7:=J ke7;clear hq7 kd7 ke7;go_region;go_wp2;refine leaves_cons (f:=115) (args:=#[.pointer (A3 ⟨w.heap.size,0,A0⟩),.pointer (A3 ⟨w.heap.size+1,0,A0⟩)]) oZ (by simp[go_sem]) ?_;refine (catch_idle w.heap.size (w.heap.size+1) _).mono ?_;rintro e u' w'' ⟨rfl,rfl,rfl⟩;exact⟨.tuple #[.agg (Bb Gz).toArray,.int .i64 E],(by simp[results,J7,go_sem,u0,u1,u2,u3,u4,u5,y7]),Gz,rfl,JD _ _,((DK hb07 (Ad _) _ _ _ _ _ _).setCell (show w.heap.size<=w.heap.size+1 by omega) _).drew⟩
theorem Parse_5 (s:ByteArray) (w:Ab) (hl:¬ 1000<s.size) (hv:AE s.data.toList=true) (hG:G w) (q:Cq) (hx:DN true (8*(Bm s.data.toList).length+8) (Bm s.data.toList)=A3 (q,[])) (E:Int) (hE:GH q=E) (hE0:E=0) :
  Af A8 54 #[.string s] w fun e w'=>∃ t,e=.returned (.tuple #[.agg (Bb t).toArray,.int .i64 (BI s.data.toList).2])/\D6 w.heap.size w' (BI s.data.toList).1 (Bb t)/\Aa w.heap.size w w':=by
 have hok:=zqw;have hl':¬ 1000<s.data.toList.length:=by rw[<- Ao];exact hl
 have g1:=zdd;rw[Qr.parse_end hl' hv hx,hE,if_pos hE0];have HV:=J hv;clear hv;obtain⟨l,hL⟩:=zgp;rw[hL]at hx hok;have HL:=J hL;clear hL;obtain⟨A,hA⟩:=zjd;have HA:=zfe;have hnd:=(Qr.nodes_all true (8*l.length+8)).1 l q [] hx;have HND:=znq;have HWZ:=zlk;have HX:=J hx;clear hx hnd;have hll:=hok.2;have HOK:=J hok.1;clear hok hl';have hmf:=za;obtain⟨W,hW⟩:=zcj;have hB:=zbu;have k2:=zat;have k3:=zab;have hWs:=zic;have K2:=J k2;have K3:=J k3;have hW':=hW.symm;clear hW k2 k3;have hlt:=zlz;clear hA;have HE:=J hE;clear hE;subst hE0;go_enter_defers La,Ka
 go_wp2_with (first
  |(go_at_call 117;refine ((readers w2.heap.size l oQ (8*l.length+8)).1 (8*l.length+8) l _ (Ad _) oQ hPS).mono ?_;rintro e w4 hh;rw[HX.out]at hh;obtain⟨qo,qf,qa,qb,qsa,qsn,qsc,qka,qkn,qkc,rfl,hq4,hP4,hF4⟩:=hh.get;clear hh;have s4:=hF4.size;have D2:=zed;have D3:=zdo;have HD2:=J D2;have HD3:=J D3;obtain⟨c2,f2,l2⟩:=A7 D2;obtain⟨x0,x1,x2,x3,x4,x5⟩:=Tx.d6 c2;have hb04:=zbv;clear D2 D3 c2)
  |(go_at_call 116;refine (tokens_c s w1 oQ).mono ?_;rintro e w2 ⟨v,rfl,hown,hb2⟩;rw[HL.out]at hown;obtain⟨ta,tc,rfl,hFA,hlow⟩:=zec;have hin:=zfn;clear hown hlow;have s2:=hb2.size;have ew2:=zdy;have I2:=zfo;have I3:=zfp;have hb02:=zce;have hPS:=zm;have hb03:=zbg;have s3:=zbt)
  |(go_at_call 114;refine (text_Valid_c s W oQ (hG.below hB)).mono ?_;rintro e w1 ⟨rfl,hb1⟩;rw[HV.out];have J2:=zhl;have J3:=zhm;have s1:=hb1.size))
 obtain⟨W5,hW5⟩:=zq;obtain⟨ta4,tc4,kg4,_,_⟩:=hP4.blk;rw[HA.out]at kg4;have kg5:=zao
 have kd5:W5.heap[w.heap.size]?=A3 (.cells #[.int .i64 qo,.int .i64 qf,.slice qsa qsn qsc,.int .i64 qa,.int .i64 qb,.slice qka qkn qkc] 29 (0,0)):=by
  exact yrn
 have ke5:=zax;have hb05:=zea;have hq5:=zy;rw[<- hW5];clear hW5 f2 x0 x1 x2 x3 x4 x5;obtain⟨gc,gf,_⟩:=A7 kg5;have gc0:=gc 0;have gc1:=gc 1;obtain⟨dc,df,_⟩:=A7 kd5;obtain⟨x0,x1,x2,x3,x4,x5⟩:=Tx.d6 dc;obtain⟨ec,ef,_⟩:=A7 ke5;have y0:=zhp;clear gc dc ec;have HE5:=J ke5;have HD5:=J kd5;have HQ5:=J hq5;clear ke5 kd5 kg5 hq5 kg4 hP4;go_quiet (fail);have HQ5D:=zbn;have HG5:=zlt;go_wp2_with fail;refine (Right_c (w2.heap.size+1) q _ (W5.drewN nq) HQ5D.out HWZ.out UZ HG5.out).mono ?_;rintro e w6 ⟨rfl,hb6⟩;rw[HE.out];have s6:W5.heap.size<=w6.heap.size:=hb6.size;have hb06:=zjs;have KD6:=zhq;have KE6:=zhi;have hq6:=HQ5D.out.later hb6;have HQ6:=J hq6;clear hq6;obtain⟨ec6,ef6,_⟩:=A7 KE6.out;have y6:=zmn;clear ec6;obtain⟨dc6,df6,_⟩:=A7 KD6.out;clear dc6;have u0:∀ v,(w6.setCell ⟨w.heap.size+1,0,A0⟩ v).cell? ⟨w.heap.size,0,A0⟩=A3 (.int .i64 qo):=(fun v=>(A7 (As (a:=⟨w.heap.size+1,0,A0⟩) KD6.out (show w.heap.size≠w.heap.size+1 by omega) v)).1 0);have u1:∀ v,(w6.setCell ⟨w.heap.size+1,0,A0⟩ v).cell? ⟨w.heap.size,1,A0⟩=A3 (.int .i64 qf):=(fun v=>(A7 (As (a:=⟨w.heap.size+1,0,A0⟩) KD6.out (show w.heap.size≠w.heap.size+1 by omega) v)).1 1);have u2:∀ v,(w6.setCell ⟨w.heap.size+1,0,A0⟩ v).cell? ⟨w.heap.size,2,A0⟩=A3 (.slice qsa qsn qsc):=(fun v=>(A7 (As (a:=⟨w.heap.size+1,0,A0⟩) KD6.out (show w.heap.size≠w.heap.size+1 by omega) v)).1 2);have u3:∀ v,(w6.setCell ⟨w.heap.size+1,0,A0⟩ v).cell? ⟨w.heap.size,3,A0⟩=A3 (.int .i64 qa):=(fun v=>(A7 (As (a:=⟨w.heap.size+1,0,A0⟩) KD6.out (show w.heap.size≠w.heap.size+1 by omega) v)).1 3);have u4:∀ v,(w6.setCell ⟨w.heap.size+1,0,A0⟩ v).cell? ⟨w.heap.size,4,A0⟩=A3 (.int .i64 qb):=(fun v=>(A7 (As (a:=⟨w.heap.size+1,0,A0⟩) KD6.out (show w.heap.size≠w.heap.size+1 by omega) v)).1 4);have u5:∀ v,(w6.setCell ⟨w.heap.size+1,0,A0⟩ v).cell? ⟨w.heap.size,5,A0⟩=A3 (.slice qka qkn qkc):=(fun v=>(A7 (As (a:=⟨w.heap.size+1,0,A0⟩) KD6.out (show w.heap.size≠w.heap.size+1 by omega) v)).1 5);go_wp2;refine leaves_cons (f:=115) (args:=#[.pointer (A3 ⟨w.heap.size,0,A0⟩),.pointer (A3 ⟨w.heap.size+1,0,A0⟩)]) oZ (by simp[go_sem]) ?_;refine (catch_idle w.heap.size (w.heap.size+1) _).mono ?_;rintro e u' w'' ⟨rfl,rfl,rfl⟩;exact⟨.tuple #[.agg #[.int .i64 qo,.int .i64 qf,.slice qsa qsn qsc,.int .i64 qa,.int .i64 qb,.slice qka qkn qkc],.int .i64 0],(by simp[results,J7,go_sem,u0,u1,u2,u3,u4,u5,y6]),⟨qo,qf,qsa,qsn,qsc,qa,qb,qka,qkn,qkc⟩,rfl,(HQ6.out.kp ((Qr.Kp.put6 ((Qr.Kp.refl _ _).set (show w.heap.size+1<w2.heap.size+1 by omega) _) oQ _ _ _ _ _ _).set (show w.heap.size+1<w2.heap.size+1 by omega) _)).mono oQ,(DK (hb06.setCell (show w.heap.size<=w.heap.size+1 by omega) _) (Ad _) _ _ _ _ _ _).setCell (show w.heap.size<=w.heap.size+1 by omega) _⟩
theorem Parse_c (s:ByteArray) (w:Ab) (hG:G w) :
  Af A8 54 #[.string s] w fun e w'=>∃ t,e=.returned (.tuple #[.agg (Bb t).toArray,.int .i64 (BI s.data.toList).2])/\D6 w.heap.size w' (BI s.data.toList).1 (Bb t)/\Aa w.heap.size w w':=by
 by_cases hl:1000<s.size
 ·exact Parse_1 s w hl
 ·cases hv:AE s.data.toList with
  | false=>exact Parse_2 s w hl hv hG
  | true =>
   cases hx:DN true (8*(Bm s.data.toList).length+8) (Bm s.data.toList) with
   | none=>exact Parse_3 s w hl hv hG hx
   | some p =>
    obtain⟨q,r'⟩:=p;by_cases hr:r'=[]
    ·subst hr;by_cases hE:GH q=0
     ·exact Parse_5 s w hl hv hG q hx _ rfl hE
     ·exact Parse_6 s w hl hv hG q hx _ rfl hE
    ·exact Parse_4 s w hl hv hG q r' hx hr
end Go.Proofs.YtlakomilichhnaaGreatDoor
