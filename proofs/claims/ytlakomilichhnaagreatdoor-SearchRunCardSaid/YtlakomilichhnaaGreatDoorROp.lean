/- Parts. -/
import Derived.Test.YtlakomilichhnaaGreatDoorROc
namespace Go.Proofs.YtlakomilichhnaaGreatDoor
set_option maxHeartbeats 6400000
set_option maxRecDepth 100000
open Go.RowKit
open Bool renaming and_eq_true->Bu,eq_false_iff->CV,eq_iff_iff->Bx,or_eq_true->DS
open Go renaming Calls->Af,World->Ab
open Instr renaming next->GE
open Int renaming toNat_natCast->He
open Lib renaming OthersKept->Kw,below_iterAt->Jl,encodeRune->FV,hid->J,iterAt_heap->Iu,iterAt_size->JK,run_next_any_at->Gp,run_next_end_at->I7,size_eq->Ao,toList_data->AG
open List renaming drop_drop->BQ,drop_zero->AU,getElem?_map->AP,length_drop->Ay,map_cons->BX,map_nil->Do
open Nat renaming le_trans->Au,lt_or_ge->D5,zero_le->Am
open Option renaming none->A0,some->A3
open Proofs.Tryz renaming func242->Cu,ntmps242->Cg,prog->A8
open RowKit renaming Below->Aa
open Sr renaming key->LS,keyStep->Ga
open Tx renaming foldC->Ba,foldS->EO,foldS_len->JU,foldS_valid->Kr,foldStep->G1,foldT->Dv,foldT_step->Js,newb->A9,rdec->Cv,sepW->GV,valid->AE,wid->EH
open Utf8 renaming encode->Hn
open World renaming iterPos->B7,iter_heap->It
open _root_.Array renaming getElem?_eq_some_iff->AA,toList_inj->Ed
open _root_.ByteArray renaming ext->Fb,size_append->Ey
variable {P:Prop}
theorem WriteRuneI_c (B b:Nat) (l:List UInt8) (r:Int) (h0:0<=r) (hr:r<=65535) (w:Ab) (h:BIs B b l w) (hlen:l.length+4<=140737488355328) (hBw:B<=w.heap.size) :
  Af A8 162 #[.pointer (A3 ⟨b,0,A0⟩),.int .i32 r] w fun e w'=>(∃ n,e=.returned (.tuple #[.int .i64 n,.nilIface]))/\BIs B b (l++FV r) w'/\Aa B w w'/\Kw 5 (A3 b) w w':=by
 obtain⟨n,rfl⟩:=Int.eq_ofNat_of_zero_le h0;exact WriteRune_c B b l n oQ w h hlen hBw
theorem Split_acc_c (s:ByteArray) (w:Ab) (hs:s.data.toList=Tx.accL) (hG:G w) :
  Af A8 161 #[.string s,.string ⟨#[44]⟩] w fun e w'=>e=.returned (.slice (A3 ⟨w.heap.size,0,A0⟩) 64 64)/\(∀ k,k<64->w'.cell? ⟨w.heap.size,k,A0⟩=A3 (.string ⟨(Ba (192+k)).toArray⟩))/\Aa w.heap.size w w'/\w.heap.size<w'.heap.size:=by
 obtain⟨m,hm⟩:=hG.m
 have hc:Lib.countB s ⟨#[44]⟩=63:=by
  unfold Lib.countB;rw[hs];exact Tx.acc_count
 have hsz:s.size=189+0\/s.size<4294967281:=by
  rw[Ao,hs];exact .inr qQ
 refine (Tryz.strings_Split s ⟨#[44]⟩ m w oQ hm oX).mono fun e w' ⟨he,hw⟩=>?_;rw[hc]at he hw;have hd:=Lib.splitB_data (⟨#[44]⟩:ByteArray) 0 63 s
 have h63:Lib.splitK [44] 0 63 Tx.accL=(List.range 64).map fun k=>Ba (192+k):=by
  have:=Tx.acc_split;unfold Lib.split at this;rw[Tx.acc_count]at this;exact this
 rw[hs]at hd;have hd2:=hd.trans h63;subst hw;refine⟨he,fun k hk=>?_,A9 _ _,oZ⟩;have h1:=cell_of_row (w.alloc (.cells ((Lib.splitB (⟨#[44]⟩:ByteArray) 0 63 s).map Value.string).toArray 9)) w.heap.size k _ _ (0,0) (heap_alloc_new w _);rw[h1,List.getElem?_toArray,AP];have h2:=congrArg (·[k]?) hd2;simp only[AP]at h2;rw[List.getElem?_range hk,Option.map_some,Option.map_eq_some_iff]at h2;obtain⟨x,hx,e2⟩:=h2;rw[hx,<- e2];rfl
theorem ye0 (h:P:=by
 rw[HEN.out]at hI3;go_roundw
 case rel=>exact⟨pos+K,out++q,oQ,hI3,k3.iter HI.out oQ,hbw2.trans hb3,HS,HV2,by simp;omega⟩
 case measure=>simp only[B7,k3.iter HI.out oQ,HIT.out];omega):P:=h
theorem y5t (h:P:=by
 go_wp2_with (go_at_call 162;refine (WriteRuneI_c w1.heap.size w1.heap.size out _ oQ oQ _ hI2 oQ hsz2).mono ?_;rintro e w3 ⟨⟨n,rfl⟩,hI3,hb3,k3⟩);exact ye0):P:=h
theorem y1o (h:P:=by
 clear htab hup;exact y5t):P:=h
theorem y4w (h:P:=by
 rw[<- hFo.out,List.drop_eq_nil_of_le aK,Tx.foldT_nil]):P:=h
theorem vp0 (h:P:=by
 have z1:p1.size<=2:=by rw[<- hp1];exact Sr.pk_size oX
 have z2:p2.size<=2:=by rw[<- hp2];exact Sr.pk_size oX
 have z3:p3.size<=2:=by rw[<- hp3];exact Sr.pk_size oX
 first
  |have hWd:=Sr.with_ger HLG.out R
   exact yrj
  |have hWd:=Sr.with_swe HLG.out R
   exact yrj):P:=h
theorem vev (h:P:=by
 rw[hFo.out,BQ]at hst;rw[BQ]at hv2;rw[<- hw]at hen;rw[hdec,<- hw]at hnx;generalize hK:EH (s.data.toList.drop pos)=K at hle hwp hst hv2 hen hnx;generalize hR:(Cv (s.data.toList.drop pos)).1=R at hru hst hen hnx;obtain⟨q,hq⟩:∃ q,(s.data.toList.drop pos).take K=q:=⟨_,rfl⟩;have hql:=zfs;rw[hq]at hst hen
 first
  |unfold G1 at hst
   have hI2:=hI.iterAt hit (pos+K);have hit2:=Iu wr (w1.heap.size+1) s pos (pos+K) hit;have hbw2:=Jl hbw (k:=w1.heap.size+1) oQ s (pos+K);have hsz2:w1.heap.size<=(wr.iterAt (w1.heap.size+1) s (pos+K)).heap.size:=by rw[JK];omega
   obtain⟨W,hWd⟩:∃ W,wr.iterAt (w1.heap.size+1) s (pos+K)=W:=⟨_,rfl⟩;rw[hWd]at hnx hit2 hbw2 hI2 hsz2;have HIT:=zom;have HI:=J hit2;have HEN:=J hen;have HV2:=zgs;clear hne hz hd hw hv2 hdec hit hI hbw hFo hVp hWd hit2 hq hen hK hR;by_cases hup:65<=R/\R<=90
   ·rw[Tx.foldP_up hup]at hst;have heu:=Tx.enc_up hup;have HS:Hid (Dv G1 (out++[UInt8.ofNat (R+32)]) (s.data.toList.drop (pos+K))=F):=J hst.symm;have HEU:=J heu;clear hst heu;obtain⟨g1,g2⟩:=hup;go_wp2_with (go_at_call 162;refine (WriteRuneI_c w1.heap.size w1.heap.size out _ oQ oQ _ hI2 oQ hsz2).mono ?_;rintro e w3 ⟨⟨n,rfl⟩,hI3,hb3,k3⟩)
    have hI4:BIs w1.heap.size w1.heap.size (out++[UInt8.ofNat (R+32)]) w3:=by
     rw[<- HEU.out];have e1:((R+32:Nat):Int)=(R:Int)+97 - 65:=oQ;rw[e1];exact hI3
    go_roundw
    case rel=>exact⟨pos+K,out++[UInt8.ofNat (R+32)],oQ,hI4,k3.iter HI.out oQ,hbw2.trans hb3,HS,HV2,by simp;omega⟩
    case measure=>simp only[B7,k3.iter HI.out oQ,HIT.out];omega
   ·by_cases htab:Ba R=[]
    ·rw[Tx.foldP_same htab]at hst;have HS:Hid (Dv G1 (out++q) (s.data.toList.drop (pos+K))=F):=J hst.symm;clear hst;rcases (show R<65\/(65<=R/\90<R/\R<192)\/(192<=R/\256<=R)\/(192<=R/\R<256) by omega) with g | ⟨g1,g2,g3⟩ | ⟨g1,g2⟩ | ⟨g1,g2⟩
     ·exact y1o
     ·exact y1o
     ·clear htab hup;have g65:65<=R:=oQ;have g90:90<R:=oQ;exact y5t
     ·obtain⟨k,hkR⟩:∃ k,192+k=R:=⟨R - 192,oQ⟩;have hk:k<64:=oQ;have hpc:=cell_later hbw2 (HPL.out k hk);rw[hkR,htab]at hpc;have g65:65<=R:=oQ;have g90:90<R:=oQ;have he:(R:Int) - 192=(k:Int):=oQ;clear htab hup hkR;exact y5t
    ·rw[Tx.foldP_tab htab]at hst
     have hr:192<=R/\R<256:=by
      rcases D5 R 192 with h9 | h9
      ·exact absurd (Tx.foldC_out hup (.inl h9)) htab
      ·rcases D5 255 R with h8 | h8
       ·exact absurd (Tx.foldC_out hup (.inr h8)) htab
       ·omega
     obtain⟨k,hkR⟩:∃ k,192+k=R:=⟨R - 192,oQ⟩;have hk:k<64:=oQ;have hpc:=cell_later hbw2 (HPL.out k hk);rw[hkR]at hpc;have hfl:=Tx.foldC_len R;obtain⟨fc,hfc⟩:∃ fc,Ba R=fc:=⟨_,rfl⟩;rw[hfc]at hpc hst htab hfl;have hfe:fc.isEmpty=false:=by simpa using htab
     have HS:Hid (Dv G1 (out++fc) (s.data.toList.drop (pos+K))=F):=J hst.symm;have g65:65<=R:=oQ;have g90:90<R:=oQ;have he:(R:Int) - 192=(k:Int):=oQ;obtain⟨g1,g2⟩:=hr;clear hst htab hup hfc hkR;go_wp2_with (go_at_call 163;refine (WriteString_c w1.heap.size w1.heap.size out _ _ hI2 iV hsz2).mono ?_;rintro e w3 ⟨rfl,hI3,hb3,k3⟩);go_roundw
     case rel=>exact⟨pos+K,out++fc,oQ,hI3,k3.iter HI.out oQ,hbw2.trans hb3,HS,HV2,by simp;omega⟩
     case measure=>simp only[B7,k3.iter HI.out oQ,HIT.out];omega
  |unfold Sr.replStep at hst
   rw[Sr.replC_with]at hst;have hI2:=hI.iterAt hit (pos+K);have hit2:=Iu wr (w.heap.size+1) s pos (pos+K) hit;have hbw2:=Jl hbw (k:=w.heap.size+1) oQ s (pos+K);have hsz2:w.heap.size<=(wr.iterAt (w.heap.size+1) s (pos+K)).heap.size:=by rw[JK];omega
   obtain⟨W,hWd⟩:∃ W,wr.iterAt (w.heap.size+1) s (pos+K)=W:=⟨_,rfl⟩;rw[hWd]at hnx hit2 hbw2 hI2 hsz2;have HIT:=zom;have HI:=J hit2;have HEN:=J hen;have HV2:=zgs;clear hne hz hd hw hv2 hdec hit hI hbw hFo hVp hWd hit2 hq hen hK hR;by_cases k1:L=[103,101,114]
   ·have HLG:=J k1;rw[decide_eq_true k1]at eg;clear k1 es ep;obtain⟨p1,hp1⟩:∃ p,Sr.pk (R:Int) 196 228 ⟨#[97,101]⟩=p:=⟨_,rfl⟩;obtain⟨p2,hp2⟩:∃ p,Sr.pk (R:Int) 214 246 ⟨#[111,101]⟩=p:=⟨_,rfl⟩;obtain⟨p3,hp3⟩:∃ p,Sr.pk (R:Int) 220 252 ⟨#[117,101]⟩=p:=⟨_,rfl⟩;exact vp0
   ·rw[decide_eq_false k1]at eg;by_cases k2:L=[115,119,101]
    ·have HLG:=J k2;rw[decide_eq_true k2]at es;clear k1 k2 ep;obtain⟨p1,hp1⟩:∃ p,Sr.pk (R:Int) 197 229 ⟨#[123]⟩=p:=⟨_,rfl⟩;obtain⟨p2,hp2⟩:∃ p,Sr.pk (R:Int) 196 228 ⟨#[124]⟩=p:=⟨_,rfl⟩;obtain⟨p3,hp3⟩:∃ p,Sr.pk (R:Int) 214 246 ⟨#[125]⟩=p:=⟨_,rfl⟩;exact vp0
    ·rw[decide_eq_false k2]at es;by_cases k3:L=[115,112,97]
     ·have HLG:=J k3;rw[decide_eq_true k3]at ep;clear k1 k2 k3;obtain⟨W3,hW3⟩:∃ W,Sr.pk (R:Int) 209 241 ⟨#[110,126]⟩=W:=⟨_,rfl⟩;have hWd:=Sr.with_spa HLG.out R;rw[hW3]at hWd;have hW3s:W3.size<=6:=by have:W3.size<=2:=(by rw[<- hW3];exact Sr.pk_size oX);omega
      exact ymg
     ·rw[decide_eq_false k3]at ep;have HN1:=J k1;have HN2:=J k2;have HN3:=J k3;clear k1 k2 k3;by_cases hc:123<=R/\R<=126
      ·rw[if_pos hc]at hst;obtain⟨g1,g2⟩:=hc;have HS:=zgq;clear hst;go_wp2_with (go_at_call 182;refine (WB32_c w.heap.size w.heap.size out _ hI2 oQ hsz2).mono ?_;rintro e w3 ⟨rfl,hI3,hb3,k3⟩);exact yoo
      ·rw[if_neg hc]at hst;rw[if_pos (Sr.with_none HN1.out HN2.out HN3.out R)]at hst;rcases (by omega:R<123\/(123<=R/\126<R)) with g1 | ⟨g1,g2⟩
       ·exact y38
       ·exact y38):P:=h
theorem v33 (h:P:=by
 have hne:s.data.toList.drop pos≠[]:=Tx.drop_ne (by rw[<- Ao];exact hp);obtain⟨hz,hd,hw,hv2,_⟩:=Tx.valid_head hne hVp.out;have hdec:Utf8.decode s pos=Cv (s.data.toList.drop pos):=by rw[<- Lib.decodeL_drop,hd]
 have hle:=Tx.wid_le hne;have hwp:=Tx.wid_pos (s.data.toList.drop pos);rw[Ay,<- Ao]at hle;have hen:=Tx.enc_head hne hz;have hru:=Tx.rdec_rune (s.data.toList.drop pos)
 first
  |have hst:=Js G1 out hne
   exact vev
  |have hst:=Js (Sr.replStep L) out hne
   exact vev
  |have hfo:=hFo.out
   rw[Js (Sr.replStep lang.data.toList) _ hne,BQ]at hfo;rw[BQ]at hv2;rw[<- hw]at hen;rw[hdec,<- hw]at hnx;generalize hK:EH (s.data.toList.drop pos)=K at hle hwp hfo hv2 hen hnx;generalize hR:(Cv (s.data.toList.drop pos)).1=R at hru hfo hen hnx;obtain⟨q,hq⟩:∃ q,(s.data.toList.drop pos).take K=q:=⟨_,rfl⟩;have hql:=zfs;rw[hq]at hfo hen;have hit2:=Iu wr (w.heap.size) s pos (pos+K) hit;have hbw2:=Jl hbw (k:=w.heap.size) oQ s (pos+K);have hsz2:w.heap.size<=(wr.iterAt (w.heap.size) s (pos+K)).heap.size:=by rw[JK];omega
   obtain⟨V,hVd⟩:∃ V,wr.iterAt (w.heap.size) s (pos+K)=V:=⟨_,rfl⟩;rw[hVd]at hnx hit2 hbw2 hsz2;have HIT:=zom;have HI:=J hit2;have HEN:=J hen;have HV2:=zgs;clear hne hz hd hw hv2 hdec hit hbw hFo hVp hVd hit2 hq hen hK hR;have RC:∀ w',Af A8 242 #[.string lang,.int .i32 R] w' fun e w''=>e=.returned (.string ⟨(Sr.replC lang.data.toList q R).toArray⟩)/\w''=w':=fun w'=>RC0 R q w' hru HEN.out;clear hru;obtain⟨X,hX⟩:∃ X:ByteArray,(⟨(Sr.replC lang.data.toList q R).toArray⟩:ByteArray)=X:=⟨_,rfl⟩;have hXd:Sr.replC lang.data.toList q R=X.data.toList:=by rw[<- hX]
   have hXs:X.size<=q.length+2:=by rw[Ao,<- hXd];exact Sr.replC_len _ _ _
   rw[hX]at RC;unfold Sr.replStep at hfo;rw[hXd,show out.data.toList++X.data.toList=(out++X).data.toList by simp]at hfo;have HS:Hid (Dv (Sr.replStep lang.data.toList) (out++X).data.toList (s.data.toList.drop (pos+K))=T.data.toList):=J hfo;have HRC:=J RC;clear RC RC0 hfo hX hXd;go_wp2_with (go_at_call 242;(with_reducible refine (HRC.out _).mono ?_);rintro e w1 ⟨rfl,rfl⟩);go_roundw
   case rel=>exact⟨pos+K,out++X,rfl,oQ,HI.out,hbw2,HS,HV2,by rw[Ey];omega⟩
   case measure=>simp only[B7,HI.out,HIT.out];omega):P:=h
theorem text_Fold_c (s:ByteArray) (w:Ab) (hG:G w) (hs:s.size<=1000000000) (hv:AE s.data.toList=true) :
  Af A8 95 #[.string s] w fun e w'=>e=.returned (.string ⟨(EO s.data.toList).toArray⟩)/\Aa w.heap.size w w':=by
 obtain⟨F,hF⟩:∃ F,EO s.data.toList=F:=⟨_,rfl⟩;have HF:=J hF;clear hF;have HV:=J hv;clear hv;go_enter Tryz.func95,Tryz.ntmps95;go_wp2_with (go_at_call 161;refine (Split_acc_c _ _ qQ hG).mono ?_;rintro e w1 ⟨rfl,hpl,hb1,hlt1⟩);have HPL:=J hpl;clear hpl;go_loopw [6] (fun _ wr=>∃ (pos:Nat) (out:List UInt8),pos<=s.size/\BIs w1.heap.size w1.heap.size out wr/\wr.heap[w1.heap.size+1]?=A3 (.stringIter s pos)/\Aa w1.heap.size w1 wr/\Hid (Dv G1 out (s.data.toList.drop pos)=F)/\Hid (AE (s.data.toList.drop pos)=true)/\out.length<=2*pos) (fun _ wr=>s.size - wr.iterPos (w1.heap.size+1))
 case atStart =>
  refine⟨0,[],Am _,(Lib.IsBuilderF.of (Lib.fresh_isBuilder 176 5 w1)).alloc _,?_,(A9 _ _).alloc oZ _,J yX,J yZ,oZ⟩;have:=It (w1.alloc (.cells #[.pointer A0,.slice A0 0 0] 176)) s 0;simpa using this
 case round =>
  obtain⟨pos,out,hps,hI,hit,hbw,hFo,hVp,hol⟩:=hrel;have hsz:w1.heap.size+1<wr.heap.size:=(AA.1 hit).1;by_cases hp:pos<s.size
  ·have hnx:∀ ty,(GE (.pointer (A3 ⟨w1.heap.size+1,0,A0⟩)) true ty).run A8 wr=_:=fun ty=>Gp wr (w1.heap.size+1) s pos ty hit hp;exact v33
  ·have hnx:∀ ty,(GE (.pointer (A3 ⟨w1.heap.size+1,0,A0⟩)) true ty).run A8 wr=_:=fun ty=>I7 wr (w1.heap.size+1) s pos ty hit hp
   have hfin:out=F:=by
    exact y4w
   have HFIN:=J hfin;clear hfin;have hwsz:w1.heap.size<=wr.heap.size:=hbw.size;go_wp2_with (go_at_call 164;refine (Tryz.Builder_String_any_f w1.heap.size w1.heap.size out _ hI hwsz).mono ?_;rintro e w3 ⟨rfl,hI3,hb3⟩);go_ret;exact⟨Tx.rets (by rw[HFIN.out,HF.out]),(hb1.trans ((hbw.trans hb3).mono hb1.size))⟩
theorem yeb (h:P:=by
 subst this;clear hb;go_wp2;go_ret;exact⟨Tx.retb qB,Below.refl _ _⟩):P:=h
theorem text_sep_c (c:Nat) (w:Ab) :
  Af A8 267 #[.int .i32 c] w fun e w'=>e=.returned (.bool (GV c))/\Aa w.heap.size w w':=by
 obtain⟨b,hb⟩:∃ b,GV c=b:=⟨_,rfl⟩;rw[hb];unfold GV Tx.letter at hb;go_enter Tryz.func267,Tryz.ntmps267;rcases (show c<48\/(48<=c/\c<=57)\/(57<c/\c<97)\/(97<=c/\c<=122)\/(122<c/\c<256)\/256<=c by omega) with g | ⟨g1,g2⟩ | ⟨g1,g2⟩ | ⟨g1,g2⟩ | ⟨g1,g2⟩ | g
 ·have:b=true:=by rw[<- hb];simp;omega
  exact yeb
 ·have:b=false:=by rw[<- hb];simp;omega
  have g3:c<97:=oQ;exact yeb
 ·have:b=true:=by rw[<- hb];simp;omega
  have g3:=zrr;have g4:c<256:=oQ;exact yeb
 ·have:b=false:=by rw[<- hb];simp;omega
  exact yeb
 ·have:b=true:=by rw[<- hb];simp;omega
  have g3:97<=c:=oQ;have g4:=zrr;have g5:57<c:=oQ;exact yeb
 ·have:b=false:=by rw[<- hb];simp;omega
  have g3:97<=c:=oQ;have g4:=zrr;have g5:57<c:=oQ;have g6:122<c:=oQ;exact yeb
theorem text_sep_enters:∀ args w,(callFunc 267 args).run A8 w=.ok (.enter 267 args) w:=enters_of Tryz.func267 oJ rfl
theorem text_Words_c (s:ByteArray) (w:Ab) (hG:G w) (hs:s.size<=1000000000) (hv:AE s.data.toList=true) :
  Af A8 208 #[.string s] w fun e w'=>∃ A xs,e=.returned (.slice (A3 ⟨A,0,A0⟩) xs.length xs.length)/\xs.map (·.data.toList)=Tx.words s.data.toList/\SLA w' (A3 ⟨A,0,A0⟩) xs.length xs/\w.heap.size<=A/\Aa w.heap.size w w':=by
 have hfl:=JU hv;rw[<- Ao]at hfl;have hE:=Tx.fieldsT_eq GV ⟨(EO s.data.toList).toArray⟩ (Kr hv);have hn:=Tx.fields_len GV ⟨(EO s.data.toList).toArray⟩;rw[Tx.size_mk]at hn;have hp:∀ w,PredGrows A8 267 #[] GV w:=fun w W x _ _=>text_sep_c x W;have HP:=J hp;clear hp;have HE:=J hE;clear hE;have HV:=J hv;clear hv;go_enter Tryz.func208,Tryz.ntmps208
 go_wp2_with (first
  |(go_at_call 95;refine (text_Fold_c s _ hG hs HV.out).mono ?_;rintro e w1 ⟨rfl,hb1⟩)
  |(go_at_call 167;refine (Tryz.strings_FieldsFunc_grows 267 #[] text_sep_enters GV _ _ iV (HP.out _)).mono ?_;rintro e w2 ⟨A,rfl,hA,hown,hb2⟩))
 go_ret;obtain⟨a,c,h1,h2⟩:=SLA.of_own hown rfl;cases h1;exact⟨A,_,rfl,HE.out,h2,Au hb1.size hA,hb1.trans (hb2.mono hb1.size)⟩
namespace Sr
def pk (r L S:Int) (s:ByteArray):ByteArray:=if r=L\/r=S then s else ⟨#[]⟩
theorem pk_data (r L S:Int) (s:ByteArray):(pk r L S s).data.toList=if r=L\/r=S then s.data.toList else []:=by unfold pk;split <;> rfl
theorem pk_size {r L S:Int}{s:ByteArray} (h:s.size<=2):(pk r L S s).size<=2:=by
 unfold pk;split
 ·exact h
 ·exact Am _
def withC (lang:By) (c:Nat):By :=
 if lang=[103,101,114] then (if c=196\/c=228 then [97,101] else if c=214\/c=246 then [111,101] else if c=220\/c=252 then [117,101] else [])
 else if lang=[115,119,101] then (if c=197\/c=229 then [123] else if c=196\/c=228 then [124] else if c=214\/c=246 then [125] else [])
 else if lang=[115,112,97] then (if c=209\/c=241 then [110,126] else [])
 else []
theorem replC_with (lang q:By) (c:Nat):replC lang q c=if 123<=c/\c<=126 then [32] else if withC lang c=[] then q else withC lang c:=by
 unfold replC withC;by_cases h1:123<=c/\c<=126
 ·rw[if_pos h1,if_pos h1]
 ·rw[if_neg h1,if_neg h1];by_cases h2:lang=[103,101,114]
  ·simp only[if_pos h2]
   repeat' split
   all_goals first | rfl | contradiction | simp_all
  ·simp only[if_neg h2];by_cases h3:lang=[115,119,101]
   ·simp only[if_pos h3]
    repeat' split
    all_goals first | rfl | contradiction | simp_all
   ·simp only[if_neg h3];by_cases h4:lang=[115,112,97]
    ·simp only[if_pos h4]
     repeat' split
     all_goals first | rfl | contradiction | simp_all
    ·simp only[if_neg h4];rfl
theorem yj3 (h:P:=by
 rw[if_neg (fun h9=>h1 (e1.1 h9)),if_neg (fun h9=>h2 (e2.1 h9)),if_neg (fun h9=>h3 (e3.1 h9)),if_neg h1,if_neg h2,if_neg h3];rfl):P:=h
theorem y7z (h:P:=by
 rw[if_pos (e1.2 h1),if_neg (fun h9=>by have:=e2.1 h9;omega),if_neg (fun h9=>by have:=e3.1 h9;omega),if_pos h1];rfl):P:=h
theorem yfd (h:P:=by
 rw[if_neg (fun h9=>h1 (e1.1 h9)),if_pos (e2.2 h2),if_neg (fun h9=>by have:=e3.1 h9;omega),if_neg h1,if_pos h2];rfl):P:=h
theorem ypy (h:P:=by
 rw[if_neg (fun h9=>h1 (e1.1 h9)),if_neg (fun h9=>h2 (e2.1 h9)),if_pos (e3.2 h3),if_neg h1,if_neg h2,if_pos h3];rfl):P:=h
theorem with_ger {lang:By} (h:lang=[103,101,114]) (c:Nat):((pk c 196 228 ⟨#[97,101]⟩++pk c 214 246 ⟨#[111,101]⟩)++pk c 220 252 ⟨#[117,101]⟩).data.toList=withC lang c:=by
 unfold withC;rw[if_pos h];simp only[ByteArray.data_append,Array.toList_append,pk_data];have e1:=zpe;have e2:=zpf;have e3:((c:Int)=220\/(c:Int)=252)↔(c=220\/c=252):=oQ;by_cases h1:c=196\/c=228
 ·exact y7z
 ·by_cases h2:c=214\/c=246
  ·exact yfd
  ·by_cases h3:c=220\/c=252
   ·exact ypy
   ·exact yj3
theorem with_swe {lang:By} (h:lang=[115,119,101]) (c:Nat):((pk c 197 229 ⟨#[123]⟩++pk c 196 228 ⟨#[124]⟩)++pk c 214 246 ⟨#[125]⟩).data.toList=withC lang c:=by
 unfold withC;rw[if_neg (by rw[h];decide),if_pos h];simp only[ByteArray.data_append,Array.toList_append,pk_data];have e1:((c:Int)=197\/(c:Int)=229)↔(c=197\/c=229):=oQ;have e2:=zpe;have e3:=zpf;by_cases h1:c=197\/c=229
 ·exact y7z
 ·by_cases h2:c=196\/c=228
  ·exact yfd
  ·by_cases h3:c=214\/c=246
   ·exact ypy
   ·exact yj3
theorem with_spa {lang:By} (h:lang=[115,112,97]) (c:Nat):(pk c 209 241 ⟨#[110,126]⟩).data.toList=withC lang c:=by
 unfold withC;rw[if_neg (by rw[h];decide),if_neg (by rw[h];decide),if_pos h,pk_data];by_cases h1:c=209\/c=241
 ·rw[if_pos oQ,if_pos h1]
 ·rw[if_neg oQ,if_neg h1]
theorem with_none {lang:By} (h1:lang≠[103,101,114]) (h2:lang≠[115,119,101]) (h3:lang≠[115,112,97]) (c:Nat):withC lang c=[]:=by
 unfold withC;rw[if_neg h1,if_neg h2,if_neg h3]
theorem withC_len (lang:By) (c:Nat):(withC lang c).length<=2:=by
 unfold withC
 repeat' split
 all_goals decide
def replStep (lang:By) (out:By) (q:By) (c:Nat):By:=out++replC lang q c
theorem repl_fold (lang s:By):repl lang s=Dv (replStep lang) [] s:=rfl
theorem str_eq (s:ByteArray) (x:By):(s.toList == x)=decide (s.data.toList=x):=by
 rw[AG,Bx];simp
end Sr
theorem pick_c (r L S:Int) (s:ByteArray) (w:Ab) :
  Af A8 240 #[.int .i32 r,.int .i32 L,.int .i32 S,.string s] w fun e w'=>e=.returned (.string (Sr.pk r L S s))/\w'=w:=by
 obtain⟨T,hT⟩:∃ T,Sr.pk r L S s=T:=⟨_,rfl⟩;rw[hT];unfold Sr.pk at hT;by_cases h1:r=L
 ·rw[if_pos (.inl h1)]at hT;have HT:=J hT;have e1:(r == L)=true:=beq_iff_eq.2 h1;clear hT h1;go_enter Tryz.func240,Tryz.ntmps240;go_wp2;go_ret;exact⟨by rw[HT.out];rfl,rfl⟩
 ·have e1:(r == L)=false:=beq_eq_false_iff_ne.2 h1;by_cases h2:r=S
  ·rw[if_pos (.inr h2)]at hT;have HT:=J hT;have e2:(r == S)=true:=beq_iff_eq.2 h2;clear hT h1 h2;go_enter Tryz.func240,Tryz.ntmps240;go_wp2;go_ret;exact⟨by rw[HT.out];rfl,rfl⟩
  ·rw[if_neg (by rintro (h | h);exact h1 h;exact h2 h)]at hT;have HT:=J hT;have e2:(r == S)=false:=beq_eq_false_iff_ne.2 h2;clear hT h1 h2;go_enter Tryz.func240,Tryz.ntmps240;go_wp2;go_ret;exact⟨by rw[<- HT.out];rfl,rfl⟩
theorem WB32_c (B b:Nat) (l:List UInt8) (w:Ab) (h:BIs B b l w) (hlen:l.length+1<=140737488355328) (hBw:B<=w.heap.size) :
  Af A8 182 #[.pointer (A3 ⟨b,0,A0⟩),.int .u8 32] w fun e w'=>e=.returned .nilIface/\BIs B b (l++[32]) w'/\Aa B w w'/\Kw 5 (A3 b) w w' :=
 WriteByte_c B b l 32 w h hlen hBw
theorem yfo (h:P:=by
 clear hc hwe;have HS:Hid (Dv (Sr.replStep L) (out++Sr.withC L R) (s.data.toList.drop (pos+K))=F):=J hst.symm;clear hst;go_wp2_with (first | (go_at_call 240;((with_reducible refine (pick_c _ _ _ _ _).mono ?_);rintro e w1 ⟨rfl,rfl⟩)) | (go_at_call 163;refine (WriteString_c w.heap.size w.heap.size out _ _ hI2 oQ hsz2).mono ?_;rintro e w3 ⟨rfl,hI3,hb3,k3⟩));rw[HW.out]at hI3;go_roundw
 case rel=>exact⟨pos+K,out++Sr.withC L R,oQ,hI3,k3.iter HI.out oQ,hbw2.trans hb3,HS,HV2,by have:=HWL.out;simp;omega⟩
 case measure=>simp only[B7,k3.iter HI.out oQ,HIT.out];omega):P:=h
theorem yjl (h:P:=by
 clear hc hwe;have HS:=zha;clear hst;go_wp2_with (first | (go_at_call 240;((with_reducible refine (pick_c _ _ _ _ _).mono ?_);rintro e w1 ⟨rfl,rfl⟩)) | (go_at_call 162;refine (WriteRuneI_c w.heap.size w.heap.size out _ oQ oQ _ hI2 oQ hsz2).mono ?_;rintro e w3 ⟨⟨n,rfl⟩,hI3,hb3,k3⟩));exact ye0):P:=h
theorem yoo (h:P:=by
 go_roundw
 case rel=>exact⟨pos+K,out++[32],oQ,hI3,k3.iter HI.out oQ,hbw2.trans hb3,HS,HV2,by simp;omega⟩
 case measure=>simp only[B7,k3.iter HI.out oQ,HIT.out];omega):P:=h
theorem ymg (h:P:=by
 have HW:=J hWd;have HWL:Hid ((Sr.withC L R).length<=2):=J (Sr.withC_len L R);clear hWd;by_cases hc:123<=R/\R<=126
 ·rw[if_pos hc]at hst;obtain⟨g1,g2⟩:=hc;have HS:=zgq;clear hst;go_wp2_with (first | (go_at_call 240;((with_reducible refine (pick_c _ _ _ _ _).mono ?_);rintro e w1 ⟨rfl,rfl⟩)) | (go_at_call 182;refine (WB32_c w.heap.size w.heap.size out _ hI2 oQ hsz2).mono ?_;rintro e w3 ⟨rfl,hI3,hb3,k3⟩));exact yoo
 ·rw[if_neg hc]at hst;by_cases hwe:Sr.withC L R=[]
  ·rw[if_pos hwe]at hst;have hW0:(W3.toList == [])=true:=by rw[AG,HW.out,hwe];rfl
   rcases (by omega:R<123\/(123<=R/\126<R)) with g1 | ⟨g1,g2⟩
   ·exact yjl
   ·exact yjl
  ·rw[if_neg hwe]at hst;have hW0:(W3.toList == [])=false:=by rw[AG,HW.out];simpa using hwe
   rcases (by omega:R<123\/(123<=R/\126<R)) with g1 | ⟨g1,g2⟩
   ·exact yfo
   ·exact yfo):P:=h
theorem yrj (h:P:=by
 rw[hp1,hp2,hp3]at hWd;obtain⟨W3,hW3⟩:∃ W,p1++p2++p3=W:=⟨_,rfl⟩;rw[hW3]at hWd;have hW3s:W3.size<=6:=by rw[<- hW3,Ey,Ey];omega
 exact ymg):P:=h
theorem y38 (h:P:=by
 clear hc;have HS:=zha;clear hst;go_wp2_with (go_at_call 162;refine (WriteRuneI_c w.heap.size w.heap.size out _ oQ oQ _ hI2 oQ hsz2).mono ?_;rintro e w3 ⟨⟨n,rfl⟩,hI3,hb3,k3⟩);exact ye0):P:=h
theorem yts (h:P:=by
 have hwsz:w.heap.size<=wr.heap.size:=hbw.size;go_wp2_with (go_at_call 164;refine (Tryz.Builder_String_any_f w.heap.size w.heap.size out _ hI hwsz).mono ?_;rintro e w3 ⟨rfl,hI3,hb3⟩);go_ret;exact⟨Tx.rets (by rw[HFIN.out]),hbw.trans hb3⟩):P:=h
theorem replaced_c (lang s:ByteArray) (w:Ab) (hs:s.size<=1000000) (hv:AE s.data.toList=true) :
  Af A8 180 #[.string lang,.string s] w fun e w'=>e=.returned (.string ⟨(Sr.repl lang.data.toList s.data.toList).toArray⟩)/\Aa w.heap.size w w':=by
 obtain⟨L,hL⟩:=zpw;have eg:=zqf;have es:=zqg;have ep:=zqt;rw[hL]at eg es ep ⊢;rw[Sr.repl_fold];obtain⟨F,hF⟩:∃ F,Dv (Sr.replStep L) [] s.data.toList=F:=⟨_,rfl⟩;have HF:=J hF;have HV:=J hv;rw[hF];clear hF hv hL;go_enter Tryz.func180,Tryz.ntmps180;go_wp2;go_loopw [7] (fun _ wr=>∃ (pos:Nat) (out:List UInt8),pos<=s.size/\BIs w.heap.size w.heap.size out wr/\wr.heap[w.heap.size+1]?=A3 (.stringIter s pos)/\Aa w.heap.size w wr/\Hid (Dv (Sr.replStep L) out (s.data.toList.drop pos)=F)/\Hid (AE (s.data.toList.drop pos)=true)/\out.length<=3*pos) (fun _ wr=>s.size - wr.iterPos (w.heap.size+1))
 case atStart =>
  refine⟨0,[],Am _,(Lib.IsBuilderF.of (Lib.fresh_isBuilder 176 5 w)).alloc _,?_,(A9 _ _).alloc oZ _,J yX,J yZ,oZ⟩;have:=It (w.alloc (.cells #[.pointer A0,.slice A0 0 0] 176)) s 0;simpa using this
 case round =>
  obtain⟨pos,out,hps,hI,hit,hbw,hFo,hVp,hol⟩:=hrel;have hsz:w.heap.size+1<wr.heap.size:=(AA.1 hit).1;by_cases hp:pos<s.size
  ·have hnx:∀ ty,(GE (.pointer (A3 ⟨w.heap.size+1,0,A0⟩)) true ty).run A8 wr=_:=fun ty=>Gp wr (w.heap.size+1) s pos ty hit hp;exact v33
  ·have hnx:∀ ty,(GE (.pointer (A3 ⟨w.heap.size+1,0,A0⟩)) true ty).run A8 wr=_:=fun ty=>I7 wr (w.heap.size+1) s pos ty hit hp
   have hfin:out=F:=by
    exact y4w
   have HFIN:=J hfin;clear hfin eg es ep;exact yts
section
open Go.Shelf
def renL:Go.Shelf.Ren:=⟨fun | 170=>181 | n=>renB.f n,renB.t,renB.g⟩
theorem layB170:Go.Proofs.Lays.n170 A8 renL:=by constructor <;> first | kernel_rfl | (intro w;kernel_rfl)
theorem BLen_c (B b:Nat) (l:List UInt8) (w:Ab) (h:BIs B b l w) :
  Af A8 181 #[.pointer (A3 ⟨b,0,A0⟩)] w fun e w'=>e=.returned (.int .i64 l.length)/\w'=w :=
 Calls.mono (Any.Builder_Len_f layB170 B b (Lib.byteCells l) w h) fun e w' ⟨he,hw⟩=>⟨by rw[he,bc_len],hw⟩
namespace Sr
theorem letter_true {c:Nat} (h:(97<=c/\c<=122)\/(48<=c/\c<=57)\/(123<=c/\c<=126)\/256<=c):letter c=true:=by
 unfold letter;simp only[DS,Bu,decide_eq_true_eq];omega
theorem letter_false {c:Nat} (h:¬ ((97<=c/\c<=122)\/(48<=c/\c<=57)\/(123<=c/\c<=126)\/256<=c)):letter c=false:=by
 rw[CV];intro h9;unfold letter at h9;simp only[DS,Bu,decide_eq_true_eq]at h9;omega
theorem key_stop {out q:By}{gap:Bool}{c:Nat} (h:letter c=false):keyStep (out,gap) q c=(out,true):=by
 unfold keyStep;rw[h,if_neg oX]
theorem key_go {out q:By}{c:Nat} (h:letter c=true):keyStep (out,false) q c=(out++q,false):=by
 unfold keyStep;rw[if_pos h];simp
theorem key_first {q:By}{c:Nat} (h:letter c=true):keyStep ([],true) q c=(q,false):=by
 unfold keyStep;rw[if_pos h];simp
theorem key_gap {out q:By}{c:Nat} (h:letter c=true) (ho:out≠[]):keyStep (out,true) q c=(out++[32]++q,false):=by
 unfold keyStep;rw[if_pos h];simp[ho]
end Sr
theorem yz9 (h:P:=by
 by_cases ho:out=[]
 ·subst ho;rw[Sr.key_first hl]at hfo;have HS:Hid ((Dv Ga ([]++q,false) (S.data.toList.drop (pos+K))).1=F):=J hfo;clear hfo hl;go_wp2_with (first | (go_at_call 181;refine (BLen_c w.heap.size w.heap.size [] _ hI2).mono ?_;rintro e w3 ⟨rfl,rfl⟩) | (go_at_call 162;refine (WriteRuneI_c w.heap.size w.heap.size ([]) _ oQ oQ _ hI2 oZ hsz2).mono ?_;rintro e w5 ⟨⟨n,rfl⟩,hI5,hb5,k5⟩));rw[HEN.out]at hI5;go_roundw
  case rel=>exact⟨pos+K,[]++q,false,rfl,oQ,hI5,k5.iter HI.out oQ,hbw2.trans hb5,HS,HV2,by simp;omega⟩
  case measure=>simp only[B7,k5.iter HI.out oQ,HIT.out];omega
 ·rw[Sr.key_gap hl ho]at hfo;have HS:Hid ((Dv Ga (out++[32]++q,false) (S.data.toList.drop (pos+K))).1=F):=J hfo;have hlo:0<out.length:=List.length_pos_iff.2 ho;clear hfo hl ho;go_wp2_with (first | (go_at_call 181;refine (BLen_c w.heap.size w.heap.size out _ hI2).mono ?_;rintro e w3 ⟨rfl,rfl⟩) | (go_at_call 182;refine (WB32_c w.heap.size w.heap.size out _ hI2 oQ hsz2).mono ?_;rintro e w4 ⟨rfl,hI4,hb4,k4⟩;have hsz4:=hb4.size) | (go_at_call 162;refine (WriteRuneI_c w.heap.size w.heap.size (out++[32]) _ oQ oQ _ hI4 oW (Au hsz2 hsz4)).mono ?_;rintro e w5 ⟨⟨n,rfl⟩,hI5,hb5,k5⟩));rw[HEN.out]at hI5;go_roundw
  case rel=>exact⟨pos+K,out++[32]++q,false,rfl,oQ,hI5,k5.iter (k4.iter HI.out oQ) oQ,(hbw2.trans hb4).trans hb5,HS,HV2,by simp;omega⟩
  case measure=>simp only[B7,k5.iter (k4.iter HI.out oQ) oQ,HIT.out];omega):P:=h
theorem yjq (h:P:=by
 rw[Sr.key_go hl]at hfo;have HS:Hid ((Dv Ga (out++q,false) (S.data.toList.drop (pos+K))).1=F):=J hfo;clear hfo hl;go_wp2_with (go_at_call 162;refine (WriteRuneI_c w.heap.size w.heap.size (out) _ oQ oQ _ hI2 oQ hsz2).mono ?_;rintro e w5 ⟨⟨n,rfl⟩,hI5,hb5,k5⟩);rw[HEN.out]at hI5;go_roundw
 case rel=>exact⟨pos+K,out++q,false,rfl,oQ,hI5,k5.iter HI.out oQ,hbw2.trans hb5,HS,HV2,by simp;omega⟩
 case measure=>simp only[B7,k5.iter HI.out oQ,HIT.out];omega):P:=h
theorem yd3 (h:P:=by
 rw[Sr.key_stop (Sr.letter_false oQ)]at hfo;have HS:Hid ((Dv Ga (out,true) (S.data.toList.drop (pos+K))).1=F):=J hfo;clear hfo hc;go_wp2;go_roundw
 case rel=>exact⟨pos+K,out,true,rfl,oQ,hI2,HI.out,hbw2,HS,HV2,oQ⟩
 case measure=>simp only[B7,HI.out,HIT.out];omega):P:=h
theorem vc4 (h:P:=by
 have a1:=zqh;have a2:122<R:=oQ;have a3:=zmf;have a4:=zqi;have a5:123<=R:=oQ;have a6:126<R:=oQ
 first
  |have a7:R<256:=oQ
   exact yd3
  |have a7:R<256:=oQ
   exact ycl
  |have a7:256<=R:=oQ
   exact ycl):P:=h
theorem Key_c (lang s:ByteArray) (w:Ab) (hG:G w) (hs:s.size<=1000000) (hv:AE s.data.toList=true) :
  Af A8 104 #[.string lang,.string s] w fun e w'=>e=.returned (.string ⟨(LS lang.data.toList s.data.toList).toArray⟩)/\Aa w.heap.size w w':=by
 obtain⟨F,hF⟩:=znt;rw[hF];unfold LS at hF;obtain⟨W,hW⟩:∃ W,w.alloc (.cells #[.pointer A0,.slice A0 0 0] 176)=W:=⟨_,rfl⟩;have hB:=zi;have hWs:=zv;have hI0:BIs w.heap.size w.heap.size [] W:=by rw[<- hW];exact Lib.IsBuilderF.of (Lib.fresh_isBuilder 176 5 w)
 have hrv:=Sr.repl_valid (lang:=lang.data.toList) hv;have hrl:=Sr.repl_len (lang:=lang.data.toList) hv;rw[<- Ao]at hrl;have RC:=replaced_c lang s W hs hv;obtain⟨T,hT⟩:∃ T,Sr.repl lang.data.toList s.data.toList=T:=⟨_,rfl⟩;rw[hT]at RC hrv hrl hF;have hfv:=Kr hrv;have hfl:=JU hrv;have FC:∀ w',Aa W.heap.size W w'->Af A8 95 #[.string ⟨T.toArray⟩] w' fun e w''=>e=.returned (.string ⟨(EO T).toArray⟩)/\Aa w'.heap.size w' w'':=fun w' hb=>text_Fold_c ⟨T.toArray⟩ w' ((hG.below hB).below hb) iV hrv;obtain⟨S,hS⟩:∃ S:ByteArray,(⟨(EO T).toArray⟩:ByteArray)=S:=⟨_,rfl⟩;have hSd:S.data.toList=EO T:=by rw[<- hS]
 rw[hS]at FC;rw[<- hSd]at hF hfv hfl;rw[<- Ao]at hfl;have HRC:=J RC;have HFC:=J FC;have HF:=J hF;have HV:=J hfv;have hsz9:S.size<=6000000:=oQ;clear RC FC hF hfv hrv hrl hfl hT hS hSd hv hG;go_enter Tryz.func104,Tryz.ntmps104
 go_wp2_with (first
  |(go_at_call 180;(with_reducible refine HRC.out.mono ?_);rintro e w1 ⟨rfl,hb1⟩)
  |(go_at_call 95;(with_reducible refine (HFC.out _ hb1).mono ?_);rintro e w2 ⟨rfl,hb2⟩;have hb12:=zro;have hs2:=hb12.size))
 have hI2:=hI0.below hb12;clear hW hI0;go_loopw [6] (fun g wr=>∃ (pos:Nat) (out:List UInt8) (gap:Bool),g=.bool gap/\pos<=S.size/\BIs w.heap.size w.heap.size out wr/\wr.heap[w2.heap.size]?=A3 (.stringIter S pos)/\Aa w.heap.size w wr/\Hid ((Dv Ga (out,gap) (S.data.toList.drop pos)).1=F)/\Hid (AE (S.data.toList.drop pos)=true)/\out.length<=2*pos) (fun _ wr=>S.size - wr.iterPos w2.heap.size)
 case atStart =>
  refine⟨0,[],false,rfl,Am _,hI2.alloc _,?_,(Tx.step hB hb12).alloc oQ _,J yX,J yZ,oZ⟩;have:=It w2 S 0;simpa using this
 case round =>
  obtain⟨pos,out,gap,rfl,hps,hI,hit,hbw,hFo,hVp,hol⟩:=hrel;have hsz:=zky;by_cases hp:pos<S.size
  ·have hnx:∀ ty,(GE (.pointer (A3 ⟨w2.heap.size,0,A0⟩)) true ty).run A8 wr=_:=fun ty=>Gp wr w2.heap.size S pos ty hit hp;have hne:=zjq;obtain⟨hz,hd,hw,hv2,_⟩:=Tx.valid_head hne hVp.out;have hdec:=zia;have hle:=Tx.wid_le hne;have hwp:=Tx.wid_pos (S.data.toList.drop pos);rw[Ay,<- Ao]at hle;have hen:=Tx.enc_head hne hz;have hru:=Tx.rdec_rune (S.data.toList.drop pos);have hst:=Js Ga (out,gap) hne;have hfo:=hFo.out;rw[hst,BQ]at hfo;clear hst;rw[BQ]at hv2;rw[<- hw]at hen;rw[hdec,<- hw]at hnx;generalize hK:EH (S.data.toList.drop pos)=K at hle hwp hfo hv2 hen hnx;generalize hR:(Cv (S.data.toList.drop pos)).1=R at hru hfo hen hnx;obtain⟨q,hq⟩:∃ q,(S.data.toList.drop pos).take K=q:=⟨_,rfl⟩;have hql:=zfs;rw[hq]at hfo hen;have hI2:=hI.iterAt hit (pos+K);have hit2:=Iu wr w2.heap.size S pos (pos+K) hit;have hbw2:=zlh;have hsz2:w.heap.size<=(wr.iterAt w2.heap.size S (pos+K)).heap.size:=by rw[JK];omega
   obtain⟨V,hVd⟩:∃ V,wr.iterAt w2.heap.size S (pos+K)=V:=⟨_,rfl⟩;rw[hVd]at hnx hit2 hbw2 hI2 hsz2;have HIT:=zom;have HI:=J hit2;have HEN:=J hen;have HV2:=zli;clear hne hz hd hw hv2 hdec hit hI hbw hFo hVp hVd hit2 hq hen hK hR;rcases (by omega:(R<48)\/(48<=R/\R<=57)\/(57<R/\R<97)\/(97<=R/\R<=122)\/(123<=R/\R<=126)\/(126<R/\R<256)\/(256<=R)) with hc | hc | hc | hc | hc | hc | hc
   ·have a0:R<48:=oQ;have a1:=zqj;have a2:R<123:=oQ;have a3:R<256:=oQ;exact yd3
   ·have a1:=zqj;have a2:=zmf;have a3:R<=57:=oQ;have hl:=zkm;clear hc;cases gap with
    | false =>
     exact yjq
    | true =>
     exact yz9
   ·have a1:=zqj;have a2:=zmf;have a3:=zqi;have a4:R<123:=oQ;have a5:R<256:=oQ;exact yd3
   ·have a1:=zqh;have a2:R<=122:=oQ;have hl:=zkm;clear hc;cases gap with
    | false =>
     exact yjq
    | true =>
     exact yz9
   ·have a1:=zqh;have a2:122<R:=oQ;have a3:=zmf;have a4:=zqi;have a5:123<=R:=oQ;have a6:R<=126:=oQ;have hl:=zkm;clear hc;cases gap with
    | false =>
     exact yjq
    | true =>
     exact yz9
   ·exact vc4
   ·have a1:=zqh;have a2:122<R:=oQ;have a3:=zmf;have a4:=zqi;have a5:123<=R:=oQ;have a6:126<R:=oQ;have a7:256<=R:=oQ;have hl:=zkm;clear hc;cases gap with
    | false =>
     exact yjq
    | true =>
     exact yz9
  ·have hnx:=zcr
   have hfin:out=F:=by
    exact y4w
   have HFIN:=J hfin;clear hfin;exact yts
end
namespace Sr
theorem enc_same (r:Nat) (h:r<=65535):(Hn (r:Int)).data.toList=FV (r:Int):=by
 unfold FV;by_cases h1:r<128
 ·have hv:=zho;rw[Lib.encodeRuneZ_one oQ oQ];unfold Hn;simp only[hv,if_true,He,h1]
  first | done | rfl
 ·by_cases h2:r<2048
  ·have hv:=zho;rw[Lib.encodeRuneZ_two oQ oQ];unfold Hn;simp only[hv,if_true,He,h1,if_false,h2];have e1:(192+(r:Int) / 64).toNat=192+r / 64:=oQ;have e2:=zpz;simp only[BX,Do,e1,e2]
   first | done | rfl
  ·unfold Lib.encodeRuneZ;rw[if_neg oQ,if_neg oQ];by_cases h3:(2048<=(r:Int)/\(r:Int)<55296)\/(57343<(r:Int)/\(r:Int)<=65535)
   ·have hv:=zho;rw[if_pos h3];have h4:r<65536:=oQ;unfold Hn;simp only[hv,if_true,He,h1,if_false,h2,h4];have e1:(224+(r:Int) / 4096).toNat=224+r / 4096:=oQ;have e2:(128+(r:Int) / 64 % 64).toNat=128+r / 64 % 64:=oQ;have e3:=zpz;simp only[BX,Do,e1,e2,e3]
    first | done | rfl
   ·have hv:Utf8.valid (r:Int)=false:=by unfold Utf8.valid;simp;omega
    rw[if_neg h3,if_neg oQ];unfold Hn;simp only[hv,Bool.false_eq_true,if_false];rfl
theorem enc_piece {R:Nat}{q:By} (h:R<=65535) (hq:FV (R:Int)=q):Hn (R:Int)=⟨q.toArray⟩:=by
 apply Fb;apply Ed.1;rw[enc_same R h,hq]
structure EncIs (R:Nat) (q:By):Prop where
 out:Hn (R:Int)=⟨q.toArray⟩
theorem enc_size {R:Nat}{q:By} (h:R<=65535) (hq:FV (R:Int)=q):(Hn (R:Int)).size=q.length:=by
 rw[enc_piece h hq,Tx.size_mk]
end Sr
theorem ysm (h:P:=by
 have HT:=J hT;clear hT;go_enter Cu,Cg;go_wp2;go_ret;exact⟨by rw[HEN.out,<- HT.out];rfl,rfl⟩):P:=h
theorem yah (h:P:=by
 clear hc m0 m1 m2;exact ysm):P:=h
theorem yl6 (h:P:=by
 rcases (by omega:R<123\/(123<=R/\126<R)) with g1 | ⟨g1,g2⟩
 ·exact yah
 ·exact yah):P:=h
theorem yga (h:P:=by
 have HT:=J hT;clear hT;go_enter Cu,Cg;go_wp2;go_ret;exact⟨by rw[<- HT.out];rfl,rfl⟩):P:=h
theorem y8h (h:P:=by
 clear hc m0 m1;exact yga):P:=h
theorem yqp (h:P:=by
 rw[if_pos m2]at hT;rcases m2 with rfl | rfl
 ·exact y8h
 ·exact y8h):P:=h
theorem ys8 (h:P:=by
 clear hc m0;exact yga):P:=h
theorem y1f (h:P:=by
 rw[if_pos m1]at hT;rcases m1 with rfl | rfl
 ·exact ys8
 ·exact ys8):P:=h
theorem yvi (h:P:=by
 clear hc;exact yga):P:=h
theorem yz5 (h:P:=by
 rw[if_pos m0]at hT;rcases m0 with rfl | rfl
 ·exact yvi
 ·exact yvi):P:=h
theorem yiu (h:P:=by
 clear hc m0;exact ysm):P:=h
theorem yu5 (h:P:=by
 clear hc;exact ysm):P:=h
theorem vup (h:P:=by
 have n196:((R:Int) == 196)=false:=beq_eq_false_iff_ne.2 oQ;have n228:((R:Int) == 228)=false:=beq_eq_false_iff_ne.2 oQ;have n214:((R:Int) == 214)=false:=beq_eq_false_iff_ne.2 oQ;have n246:((R:Int) == 246)=false:=beq_eq_false_iff_ne.2 oQ
 first
  |have n220:((R:Int) == 220)=false:=beq_eq_false_iff_ne.2 oQ
   have n252:((R:Int) == 252)=false:=beq_eq_false_iff_ne.2 oQ;exact yl6
  |exact yl6):P:=h
theorem r02_replaced_c (lang:ByteArray) (R:Nat) (q:Sr.By) (w:Ab) (hR:R<=65535) (hq:FV (R:Int)=q) :
  Af A8 242 #[.string lang,.int .i32 R] w fun e w'=>e=.returned (.string ⟨(Sr.replC lang.data.toList q R).toArray⟩)/\w'=w:=by
 obtain⟨L,hL⟩:=zpw;have eg:=zqf;have es:=zqg;have ep:=zqt;rw[hL]at eg es ep ⊢;have HEN:Sr.EncIs R q:=⟨Sr.enc_piece hR hq⟩;obtain⟨T,hT⟩:∃ T:ByteArray,(⟨(Sr.replC L q R).toArray⟩:ByteArray)=T:=⟨_,rfl⟩;rw[hT];unfold Sr.replC at hT;clear hL hq hR;by_cases hc:123<=R/\R<=126
 ·rw[if_pos hc]at hT;obtain⟨g1,g2⟩:=hc;have HT:=J hT;clear hT eg es ep;go_enter Cu,Cg;go_wp2;go_ret;exact⟨by rw[<- HT.out];rfl,rfl⟩
 ·rw[if_neg hc]at hT;by_cases k1:L=[103,101,114]
  ·rw[decide_eq_true k1]at eg;rw[if_pos k1]at hT;clear k1 es ep;by_cases m0:R=196\/R=228
   ·exact yz5
   ·rw[if_neg m0]at hT;by_cases m1:R=214\/R=246
    ·exact y1f
    ·rw[if_neg m1]at hT;by_cases m2:R=220\/R=252
     ·exact yqp
     ·rw[if_neg m2]at hT;exact vup
  ·rw[decide_eq_false k1]at eg;rw[if_neg k1]at hT;by_cases k2:L=[115,119,101]
   ·rw[decide_eq_true k2]at es;rw[if_pos k2]at hT;clear k1 k2 ep;by_cases m0:R=197\/R=229
    ·exact yz5
    ·rw[if_neg m0]at hT;by_cases m1:R=196\/R=228
     ·exact y1f
     ·rw[if_neg m1]at hT;by_cases m2:R=214\/R=246
      ·exact yqp
      ·rw[if_neg m2]at hT;have n197:((R:Int) == 197)=false:=beq_eq_false_iff_ne.2 oQ;have n229:((R:Int) == 229)=false:=beq_eq_false_iff_ne.2 oQ;exact vup
   ·rw[decide_eq_false k2]at es;rw[if_neg k2]at hT;by_cases k3:L=[115,112,97]
    ·rw[decide_eq_true k3]at ep;rw[if_pos k3]at hT;clear k1 k2 k3;by_cases m0:R=209\/R=241
     ·exact yz5
     ·rw[if_neg m0]at hT;have n209:((R:Int) == 209)=false:=beq_eq_false_iff_ne.2 oQ;have n241:((R:Int) == 241)=false:=beq_eq_false_iff_ne.2 oQ;rcases (by omega:R<123\/(123<=R/\126<R)) with g1 | ⟨g1,g2⟩
      ·exact yiu
      ·exact yiu
    ·rw[decide_eq_false k3]at ep;rw[if_neg k3]at hT;clear k1 k2 k3;rcases (by omega:R<123\/(123<=R/\126<R)) with g1 | ⟨g1,g2⟩
     ·exact yu5
     ·exact yu5
theorem ycl (h:P:=by
 clear hc;go_enter Tryz.func243,Tryz.ntmps243;go_wp2;go_ret;exact⟨Tx.retb qB,rfl⟩):P:=h
theorem r02_letter_c (R:Nat) (w:Ab) :
  Af A8 243 #[.int .i32 R] w fun e w'=>e=.returned (.bool (Sr.letter R))/\w'=w:=by
 rcases (by omega:(R<48)\/(48<=R/\R<=57)\/(57<R/\R<97)\/(97<=R/\R<=122)\/(123<=R/\R<=126)\/(126<R/\R<256)\/(256<=R)) with hc | hc | hc | hc | hc | hc | hc
 ·rw[Sr.letter_false oQ];have a0:R<48:=oQ;have a1:=zqj;have a2:R<123:=oQ;have a3:R<256:=oQ;exact ycl
 ·rw[Sr.letter_true oQ];have a1:=zqj;have a2:=zmf;have a3:R<=57:=oQ;exact ycl
 ·rw[Sr.letter_false oQ];have a1:=zqj;have a2:=zmf;have a3:=zqi;have a4:R<123:=oQ;have a5:R<256:=oQ;exact ycl
 ·rw[Sr.letter_true oQ];have a1:=zqh;have a2:R<=122:=oQ;exact ycl
 ·rw[Sr.letter_true oQ];have a1:=zqh;have a2:122<R:=oQ;have a3:=zmf;have a4:=zqi;have a5:123<=R:=oQ;have a6:R<=126:=oQ;exact ycl
 ·rw[Sr.letter_false oQ];exact vc4
 ·rw[Sr.letter_true oQ];exact vc4
theorem yys (h:P:=by
 go_wp2_with (go_at_call 243;(with_reducible refine (LC _).mono ?_);rintro e w3 ⟨rfl,rfl⟩);go_roundw
 case rel=>exact⟨pos+K,out++U,false,rfl,rfl,oQ,HI.out,hbw2,HS,HV2,by rw[Ey];omega⟩
 case measure=>simp only[B7,HI.out,HIT.out];omega):P:=h
theorem yra (h:P:=by
 apply Fb;apply Ed.1;exact y4w):P:=h
theorem r02_Key_c (lang s:ByteArray) (w:Ab) (hs:s.size<=1000000) (hv:AE s.data.toList=true) :
  Af A8 186 #[.string lang,.string s] w fun e w'=>e=.returned (.string ⟨(LS lang.data.toList s.data.toList).toArray⟩)/\Aa w.heap.size w w':=by
 obtain⟨F,hF⟩:=znt;rw[hF];unfold LS at hF;have hrv:=Sr.repl_valid (lang:=lang.data.toList) hv;have hrl:=Sr.repl_len (lang:=lang.data.toList) hv;rw[<- Ao]at hrl;obtain⟨T,hT⟩:∃ T:ByteArray,T.data.toList=Sr.repl lang.data.toList s.data.toList:=⟨⟨(Sr.repl lang.data.toList s.data.toList).toArray⟩,rfl⟩;rw[<- hT]at hrv hrl hF;rw[<- Ao]at hrl;have hfv:=Kr hrv;have hfl:=JU hrv;rw[<- Ao]at hfl;obtain⟨S,hS⟩:∃ S:ByteArray,(⟨(EO T.data.toList).toArray⟩:ByteArray)=S:=⟨_,rfl⟩
 have FC:∀ w',Af A8 188 #[.string T] w' fun e w''=>e=.returned (.string S)/\Aa w'.heap.size w' w'':=fun w'=>by
  have:=r01_Fold_c T w' oQ;rw[hS]at this;exact this
 have hSd:S.data.toList=EO T.data.toList:=by rw[<- hS]
 rw[<- hSd]at hF hfv hfl;rw[<- Ao]at hfl;have hsz9:S.size<=6000000:=oQ;have HFC:=J FC;have HF:=J hF;have HV:=J hv;have HV9:=J hfv;have HT:=J hT;rw[Sr.repl_fold]at HT;clear FC hF hfv hrv hrl hfl hS hSd hv hT;go_enter Tryz.func186,Tryz.ntmps186;go_wp2;go_loopw [5] (fun v wr=>∃ (pos:Nat) (out:ByteArray),v=.string out/\pos<=s.size/\wr.heap[w.heap.size]?=A3 (.stringIter s pos)/\Aa w.heap.size w wr/\Hid (Dv (Sr.replStep lang.data.toList) out.data.toList (s.data.toList.drop pos)=T.data.toList)/\Hid (AE (s.data.toList.drop pos)=true)/\out.size<=3*pos) (fun _ wr=>s.size - wr.iterPos w.heap.size)
 case atStart =>
  refine⟨0,⟨#[]⟩,rfl,Am _,?_,A9 _ _,J (by rw[AU];exact HT.out.symm),J yZ,Am _⟩;have:=It w s 0;simpa using this
 case round =>
  obtain⟨pos,out,rfl,hps,hit,hbw,hFo,hVp,hol⟩:=hrel;have hsz:w.heap.size<wr.heap.size:=(AA.1 hit).1;by_cases hp:pos<s.size
  ·have RC0:=r02_replaced_c lang;have hnx:∀ ty,(GE (.pointer (A3 ⟨w.heap.size,0,A0⟩)) true ty).run A8 wr=_:=fun ty=>Gp wr (w.heap.size) s pos ty hit hp;exact v33
  ·have hnx:∀ ty,(GE (.pointer (A3 ⟨w.heap.size,0,A0⟩)) true ty).run A8 wr=_:=fun ty=>I7 wr w.heap.size s pos ty hit hp
   have hfin:out=T:=by
    exact yra
   subst hfin;clear hFo hVp;obtain⟨wo,hwo⟩:∃ wo,wr=wo:=⟨_,rfl⟩;subst hwo;go_wp2_with (go_at_call 188;(with_reducible refine (HFC.out _).mono ?_);rintro e w2 ⟨rfl,hb2⟩;have hb12:=Tx.step hbw hb2;have hs12:=hb12.size);go_loopw [8,9] (fun v g wr=>∃ (pos:Nat) (out:ByteArray) (gap:Bool),v=.string out/\g=.bool gap/\pos<=S.size/\wr.heap[w2.heap.size]?=A3 (.stringIter S pos)/\Aa w.heap.size w wr/\Hid ((Dv Ga (out.data.toList,gap) (S.data.toList.drop pos)).1=F)/\Hid (AE (S.data.toList.drop pos)=true)/\out.size<=2*pos) (fun _ _ wr=>S.size - wr.iterPos w2.heap.size)
   case atStart =>
    refine⟨0,⟨#[]⟩,false,rfl,rfl,Am _,?_,hb12.alloc hs12 _,J yX,J (by rw[AU];exact HV9.out),Am _⟩;have:=It w2 S 0;simpa using this
   case round =>
    obtain⟨pos,out,gap,rfl,rfl,hps,hit,hbw,hFo,hVp,hol⟩:=hrel;have hsz:=zky;by_cases hp:pos<S.size
    ·have LC0:=r02_letter_c;have hnx:∀ ty,(GE (.pointer (A3 ⟨w2.heap.size,0,A0⟩)) true ty).run A8 wr=_:=fun ty=>Gp wr (w2.heap.size) S pos ty hit hp;have hne:=zjq;obtain⟨hz,hd,hw,hv2,_⟩:=Tx.valid_head hne hVp.out;have hdec:=zia;have hle:=Tx.wid_le hne;have hwp:=Tx.wid_pos (S.data.toList.drop pos);rw[Ay,<- Ao]at hle;have hen:=Tx.enc_head hne hz;have hru:=Tx.rdec_rune (S.data.toList.drop pos);have hfo:=hFo.out;rw[Js Ga _ hne,BQ]at hfo;rw[BQ]at hv2;rw[<- hw]at hen;rw[hdec,<- hw]at hnx;generalize hK:EH (S.data.toList.drop pos)=K at hle hwp hfo hv2 hen hnx;generalize hR:(Cv (S.data.toList.drop pos)).1=R at hru hfo hen hnx;obtain⟨q,hq⟩:∃ q,(S.data.toList.drop pos).take K=q:=⟨_,rfl⟩;have hql:=zfs;rw[hq]at hfo hen;have hit2:=Iu wr (w2.heap.size) S pos (pos+K) hit;have hbw2:=zlh;have hsz2:w.heap.size<=(wr.iterAt (w2.heap.size) S (pos+K)).heap.size:=by rw[JK];omega
     obtain⟨V,hVd⟩:∃ V,wr.iterAt (w2.heap.size) S (pos+K)=V:=⟨_,rfl⟩;rw[hVd]at hnx hit2 hbw2 hsz2;have HIT:=zom;have HI:=J hit2;have HEN:=J hen;have HV2:=zli;clear hne hz hd hw hv2 hdec hit hbw hFo hVp hVd hit2 hq hen hK hR;have HU:=J (Sr.enc_piece (q:=q) oQ HEN.out);have hus:=Sr.enc_size (q:=q) oQ HEN.out;have LC:∀ w',Af A8 243 #[.int .i32 R] w' fun e w''=>e=.returned (.bool (Sr.letter R))/\w''=w':=fun w'=>LC0 R w';obtain⟨U,hU⟩:∃ U,Hn (R:Int)=U:=⟨_,rfl⟩;rw[hU]at HU hus;have HUd:Hid (U.data.toList=q):=J (by rw[HU.out]);clear LC0 hru;cases hl:Sr.letter R with
     | false =>
      rw[hl]at LC;rw[Sr.key_stop hl]at hfo;have HS:Hid ((Dv Ga (out.data.toList,true) (S.data.toList.drop (pos+K))).1=F):=J hfo;clear hfo hl;go_wp2_with (go_at_call 243;(with_reducible refine (LC _).mono ?_);rintro e w3 ⟨rfl,rfl⟩);go_roundw
      case rel=>exact⟨pos+K,out,true,rfl,rfl,oQ,HI.out,hbw2,HS,HV2,oQ⟩
      case measure=>simp only[B7,HI.out,HIT.out];omega
     | true =>
      rw[hl]at LC;cases gap with
      | false =>
       rw[Sr.key_go hl,<- HUd.out,show out.data.toList++U.data.toList=(out++U).data.toList by simp]at hfo;have HS:Hid ((Dv Ga ((out++U).data.toList,false) (S.data.toList.drop (pos+K))).1=F):=J hfo;clear hfo hl;exact yys
      | true =>
       by_cases ho:out.data.toList=[]
       ·have ht:(out.toList == [])=true:=by rw[AG,ho];rfl
        have hoe:out.data.toList++U.data.toList=(out++U).data.toList:=oZ;rw[ho,Sr.key_first hl,<- HUd.out]at hfo;have HS:Hid ((Dv Ga ((out++U).data.toList,false) (S.data.toList.drop (pos+K))).1=F):=J (by rw[<- hoe,ho,List.nil_append];exact hfo);clear hfo hl ho hoe;exact yys
       ·have ht:(out.toList == [])=false:=by rw[AG];simpa using ho
        rw[Sr.key_gap hl ho,<- HUd.out,show out.data.toList++[32]++U.data.toList=((out++⟨#[32]⟩)++U).data.toList by simp]at hfo;have HS:Hid ((Dv Ga (((out++⟨#[32]⟩)++U).data.toList,false) (S.data.toList.drop (pos+K))).1=F):=J hfo;have h32:(⟨#[32]⟩:ByteArray).size=1:=rfl;clear hfo hl ho;go_wp2_with (go_at_call 243;(with_reducible refine (LC _).mono ?_);rintro e w3 ⟨rfl,rfl⟩);go_roundw
        case rel=>exact⟨pos+K,(out++⟨#[32]⟩)++U,false,rfl,rfl,oQ,HI.out,hbw2,HS,HV2,by rw[Ey,Ey];omega⟩
        case measure=>simp only[B7,HI.out,HIT.out];omega
    ·have hnx:=zcr
     have hfin:out=⟨F.toArray⟩:=by
      exact yra
     have HFIN:=zrt;clear hfin hFo hVp;go_wp2;go_ret;exact⟨by rw[HFIN.out];rfl,hbw⟩
theorem uju (h:P:=by
 go_enter Tryz.func109,Tryz.ntmps109
 go_wp2_with (first
  |(go_at_call 186;(with_reducible refine (HK2.out _).mono ?_);rintro e w2 ⟨rfl,hb2⟩;have hb12:=zro)
  |(go_at_call 186;(with_reducible refine HK1.out.mono ?_);rintro e w1 ⟨rfl,hb1⟩))
 go_ret;exact⟨by rw[<- HC.out];rfl,hb12⟩):P:=h
theorem y20 (h:P:=by
 rw[if_neg q2]at hc;rw[decide_eq_false q2]at t2;have HC:=J hc;clear K1 K2 hE hX hY hXd hYd hc h0 tst teq q1 q2;exact uju):P:=h
theorem y3r (h:P:=by
 rw[if_pos q1]at hc;rw[q1]at t1;have HC:=J hc;clear K1 K2 hE hX hY hXd hYd hc h0 tst teq q1;exact uju):P:=h
theorem r02_Compare_c (lang a b:ByteArray) (w:Ab) (ha:a.size<=1000000) (hb:b.size<=1000000) (va:AE a.data.toList=true) (vb:AE b.data.toList=true) :
  Af A8 109 #[.string lang,.string a,.string b] w fun e w'=>e=.returned (.int .i64 (Sr.cmp lang.data.toList a.data.toList b.data.toList))/\Aa w.heap.size w w':=by
 obtain⟨X,hX⟩:=zhg;obtain⟨Y,hY⟩:=zhh;have hXd:=zkv;have hYd:=zkw;have K1:=r02_Key_c lang a w ha va;have K2:∀ w',_:=fun w'=>r02_Key_c lang b w' hb vb;have hE:=zbm;rw[hE];rw[hX]at K1;rw[hY]at K2;have HK1:=J K1;have HK2:=J K2;have tst:∀ p r:ByteArray,Op.bytesLess p.toList r.toList=Cp.ltB p.data.toList r.data.toList:=fun p r=>by rw[Go.Proofs.bytesLess_eq,AG,AG];rfl
 have teq:∀ p r:ByteArray,(p.toList == r.toList)=decide (p.data.toList=r.data.toList):=fun p r=>by rw[AG,AG,Bx];simp
 have t0:=teq X Y;by_cases h0:X.data.toList=Y.data.toList
 ·rw[if_pos h0];rw[decide_eq_true h0]at t0;have t1:=tst a b;have t2:=teq a b;obtain⟨c,hc⟩:∃ c,Sr.cmpB a.data.toList b.data.toList=c:=⟨_,rfl⟩;rw[hc];unfold Sr.cmpB at hc;by_cases q1:Cp.ltB a.data.toList b.data.toList=true
  ·exact y3r
  ·rw[if_neg q1]at hc;rw[CV.2 q1]at t1;by_cases q2:a.data.toList=b.data.toList
   ·rw[if_pos q2]at hc;rw[decide_eq_true q2]at t2;have HC:=J hc;clear K1 K2 hE hX hY hXd hYd hc h0 tst teq q1 q2;exact uju
   ·exact y20
 ·rw[if_neg h0];rw[decide_eq_false h0]at t0;have t1:=tst X Y;have t2:=teq X Y;obtain⟨c,hc⟩:=zpa;rw[hc];unfold Sr.cmpB at hc;by_cases q1:Cp.ltB X.data.toList Y.data.toList=true
  ·exact y3r
  ·rw[if_neg q1]at hc;rw[CV.2 q1]at t1;by_cases q2:X.data.toList=Y.data.toList
   ·rw[if_pos q2]at hc;exact absurd q2 h0
   ·exact y20
end Go.Proofs.YtlakomilichhnaaGreatDoor
