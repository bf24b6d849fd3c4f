/- Parts. -/
import Derived.Test.YtlakomilichhnaaGreatDoorROe
import Derived.Test.YtlakomilichhnaaGreatDoorROr
import Derived.Test.YtlakomilichhnaaGreatDoorROc
namespace Go.Proofs.YtlakomilichhnaaGreatDoor
set_option maxHeartbeats 3200000
set_option maxRecDepth 100000
open Go.RowKit
open Go renaming Addr->Aq,Calls->Af,World->Ab,cell_later->A4,maxLen->Ap,wpList_append_own->Cy
open Lib renaming hasPrefix->Dh,hid->J,join->Ly,size_eq->Ao,toList_data->AG
open List renaming append_nil->AB,cons_append->BU,contains_iff_mem->J6,drop_eq_nil_of_le->AS,drop_zero->AU,getD_eq_getElem?_getD->Bi,getElem?_eq_getElem->Ai,getElem?_eq_some_iff->Av,isPrefixOf_iff_prefix->E7,length_append->Ag,map_cons->BX,map_nil->Do,mem_of_getElem?->AJ,sum_cons->Lf,take_add_one->Cz,take_length->At
open Nat renaming add_zero->BN,le_refl->Ad,le_trans->Au,lt_or_ge->D5,pow_le_pow_right->Jk,zero_le->Am,zero_mul->F7
open Option renaming none->A0,some->A3
open Proofs renaming intOf->Aj
open Proofs.Tryz renaming prog->A8
open Rc renaming Fl->CH,FldA->Bz,SubA->Gs,allV->DJ,bys->LV,fieldsP->Gb,firstNZ->Jg,get->Hx,yearIn->In
open Tx renaming ret1->AV,retb->AX,rets->Fv,step->Ac
variable {P:Prop}
namespace Rc
open Go.Lib
theorem joinTail_app (sep:By) (a b:List By):joinTail sep (a++b)=joinTail sep a++joinTail sep b:=by simp[joinTail]
theorem join_snoc (l:List By) (x sep:By):join (l++[x]) sep=if l=[] then x else join l sep++sep++x:=by
 cases l with
 | nil=>simp[join_cons,joinTail]
 | cons y r =>
  rw[BU,join_cons,join_cons,joinTail_app,if_neg oZ];simp[joinTail]
theorem join_app_le (a b:List By) (sep:By):(join a sep).length<=(join (a++b) sep).length:=by
 cases a with
 | nil=>simp[join_nil]
 | cons y r =>
  rw[BU,join_cons,join_cons,joinTail_app];simp only[Ag];omega
theorem join_take_le (l:List By) (sep:By) (k:Nat):(join (l.take k) sep).length<=(join l sep).length:=by
 have:=join_app_le (l.take k) (l.drop k) sep;rw[List.take_append_drop]at this;exact this
theorem bys_take {xs:List ByteArray}{k:Nat}{x:ByteArray} (h:xs[k]?=A3 x):bys (xs.take (k+1))=bys (xs.take k)++[x.data.toList]:=by
 unfold bys;rw[Cz,h];simp
theorem take_map {xs:List ByteArray}{k:Nat}:bys (xs.take k)=(bys xs).take k:=by unfold bys;rw[List.map_take]
theorem take_nil_iff {α:Type}{xs:List α}{k:Nat} (h:k<xs.length):xs.take k=[]↔k=0:=by
 cases xs with
 | nil=>simp at h
 | cons x r=>cases k <;> simp
theorem has_none {codes:ByteArray}{x:UInt8} (h:∀ j,j<codes.size->codes.data.toList.getD j 0≠x):codes.data.toList.contains x=false:=by
 rw[Bool.eq_false_iff];intro h1;rw[J6]at h1;obtain⟨j,hj,e⟩:=List.mem_iff_getElem.1 h1;refine h j (by rw[Ao];exact hj) ?_;rw[Bi,Ai hj];exact e
theorem has_some {codes:ByteArray}{x:UInt8}{j:Nat} (hj:j<codes.size) (h:codes.data.toList.getD j 0=x):hasCode codes.data.toList x=true:=by
 unfold hasCode;rw[Bool.or_eq_true,J6];refine .inr ?_;have hj2:j<codes.data.toList.length:=by rw[<- Ao];exact hj
 rw[<- h,Bi,Ai hj2];exact List.getElem_mem _
theorem has_empty {codes:ByteArray}{x:UInt8} (h:codes.data.toList.contains x=false):hasCode codes.data.toList x=codes.toList.isEmpty:=by
 unfold hasCode;rw[h,Bool.or_false,AG]
end Rc
theorem r01_Join_c (xs:List ByteArray) (a:Option Aq) (c:Nat) (sep:ByteArray) (w:Ab) (h:SLA w a c xs) (hlen:(Ly (LV xs) sep.data.toList).length<=1000000000) :
  Af A8 248 #[.slice a xs.length c,.string sep] w fun e w'=>e=.returned (.string ⟨(Ly (LV xs) sep.data.toList).toArray⟩)/\w=w':=by
 have hcap:=h.cap;have hmx:Ap=9223372036854775807:=rfl;have hmax:=h.max;have HLEN:=J hlen;clear hlen;go_enter Tryz.func248,Tryz.ntmps248;go_wp2;go_loop [5,6] (fun v i=>∃ (k:Nat) (O:List UInt8),k<=xs.length/\i=.int .i64 k/\v=.string ⟨O.toArray⟩/\Hid (O=Ly (LV (xs.take k)) sep.data.toList)/\O.length<=1000000000) (fun _ i=>xs.length - (Aj i).toNat)
 case atStart=>exact⟨0,[],Am _,rfl,rfl,J rfl,oZ⟩
 case round =>
  obtain⟨k,O,hk,rfl,rfl,hO,hOl⟩:=hrel;by_cases hlt:k<xs.length
  ·obtain⟨x,hx⟩:=zfz;obtain⟨b,o,rfl,hbl,c0⟩:=h.get hx;have hj:=Rc.join_snoc (LV (xs.take k)) x.data.toList sep.data.toList;rw[<- Rc.bys_take hx,<- hO.out]at hj
   have hjl:(Ly (LV (xs.take (k+1))) sep.data.toList).length<=1000000000:=by
    rw[Rc.take_map];exact Au (Rc.join_take_le _ _ _) HLEN.out
   by_cases h0:k=0
   ·subst h0;rw[BN]at c0;have hO0:O=[]:=by rw[hO.out];rfl
    subst hO0;rw[if_pos oV]at hj;rw[hj]at hjl;have hxs:x.size<=1000000000:=by rw[Ao];exact hjl
    have HJ:=J hj;clear hj hx hO hjl;obtain⟨a1,-⟩:=Tx.adds_ok A8 [x] (⟨#[]⟩:ByteArray) (by simp only[BX,Do,Lf,List.sum_nil];rw[show (⟨#[]⟩:ByteArray).size=0 from rfl];omega);go_wp2;go_round
    case rel=>exact⟨1,x.data.toList,oQ,by go_num,by simp[Tx.bcat],J HJ.out.symm,by rw[<- Ao];exact hxs⟩
    case measure=>simp[Aj];omega
   ·rw[if_neg (fun e=>h0 ((Rc.take_nil_iff hlt).1 (by unfold LV at e;exact List.map_eq_nil_iff.1 e)))]at hj;rw[hj]at hjl;have hjl2:O.length+sep.size+x.size<=1000000000:=by rw[Ao sep,Ao x];simpa [Nat.add_assoc] using hjl
    have HJ:=J hj;clear hj hx hO hjl;have hkp:0<k:=oQ;obtain⟨a1,a2,-⟩:=Tx.adds_ok A8 [sep,x] (⟨O.toArray⟩:ByteArray) (by simp only[BX,Do,Lf,List.sum_nil,Tx.size_mk];omega);go_wp2;go_round
    case rel=>exact⟨k+1,O++sep.data.toList++x.data.toList,oQ,by go_num,by simp[Tx.bcat],J HJ.out.symm,by simp only[Ag];rw[<- Ao,<- Ao];omega⟩
    case measure=>simp[Aj];omega
  ·obtain rfl:k=xs.length:=oQ;have hO2:=hO.out;rw[At]at hO2;have HO:=J hO2;clear hO2 hO;go_wp2;go_ret;exact⟨Fv (by rw[HO.out]),rfl⟩
theorem r07_in_c (x:UInt8) (codes:ByteArray) (w:Ab) (hs:codes.size<=9223372036854775000) :
  Af A8 213 #[.int .u8 x.toNat,.string codes] w fun e w'=>e=.returned (.bool (Rc.hasCode codes.data.toList x))/\w=w':=by
 go_enter Tryz.func213,Tryz.ntmps213;go_wp2;go_loop [5] (fun i=>∃ (k:Nat),k<=codes.size/\i=.int .i64 k/\Hid (∀ j,j<k->codes.data.toList.getD j 0≠x)) (fun i=>codes.size - (Aj i).toNat)
 case atStart=>exact⟨0,Am _,rfl,J (fun j hj=>absurd hj oQ)⟩
 case round =>
  obtain⟨k,hk,rfl,hE⟩:=hrel;by_cases hlt:k<codes.size
  ·obtain⟨y,hy⟩:∃ y,codes.data.toList.getD k 0=y:=⟨_,rfl⟩;have e0:∀ h,codes[k]'h=y:=fun h=>by rw[<- hy,Tx.getD_at codes k h]
   have hq:=Rc.u8_eq (a:=y) (b:=x);by_cases hyx:y=x
   ·have HH:=J (Rc.has_some hlt (hy.trans hyx));have hq2:(y == x)=true:=by simpa using hyx
    rw[hq2]at hq;clear hy hyx hq2;go_wp2;go_ret;exact⟨AX HH.out.symm,rfl⟩
   ·have hE2:Hid (∀ j,j<k+1->codes.data.toList.getD j 0≠x):=J (fun j hj=>by
     rcases D5 j k with h1 | h1
     ·exact hE.out j h1
     ·obtain rfl:j=k:=oQ;rw[hy];exact hyx)
    have hq2:(y == x)=false:=by simpa using hyx
    rw[hq2]at hq;clear hy hyx hq2;go_wp2;go_round
    case rel=>exact⟨k+1,oQ,by go_num,hE2⟩
    case measure=>simp[Aj];omega
  ·obtain rfl:k=codes.size:=oQ;have HH:=J (Rc.has_empty (Rc.has_none hE.out));go_wp2;go_ret;exact⟨AX HH.out.symm,rfl⟩
theorem r07_All_c (f:CH) (a:Option Aq) (c:Nat) (codes:ByteArray) (w:Ab) (h:Gs w a c f.subs) (hl:f.subs.length<=1000) (hs:codes.size<=1000) :
  Af A8 142 #[.agg #[.string f.tag,.string f.ind,.slice a f.subs.length c,.int .i64 f.auth],.string codes] w fun e w'=>∃ va vc,e=.returned (.slice va (DJ f.subs codes.data.toList).length vc)/\SLA w' va vc (DJ f.subs codes.data.toList)/\Below w.heap.size w w':=by
 obtain⟨i0,hi0,hz0,hz1,hz2⟩:=zih;obtain⟨W,hW,hB,-,-,c2,-⟩:=zal;have hS:=zfw;have hcap:=h.cap;go_enter Tryz.func142,Tryz.ntmps142;go_wp2;clear hW;go_loopw [5,6] (fun v i wr=>∃ (k:Nat) (L:List ByteArray),k<=f.subs.length/\i=.int .i64 k/\Hid (L=DJ (f.subs.take k) codes.data.toList)/\L.length<=k/\wr.ownsRow W.heap.size 9 1 v L.length (L.map Value.string)/\Below W.heap.size W wr) (fun _ i _=>f.subs.length - (Aj i).toNat)
 case atStart=>exact⟨0,[],Am _,rfl,J rfl,Ad _,World.ownsRow_nil _ _ _ _,Below.refl _ _⟩
 case round =>
  obtain⟨k,L,hk,rfl,hL,hLk,hown,hb⟩:=hrel;have hbs:=hb.size;have hbw:=znd;replace c2:=A4 hb c2;by_cases hlt:k<f.subs.length
  ·obtain⟨x,hx⟩:=zdb;obtain⟨b,o,rfl,hbl,c0,c1⟩:=hS.get hx;replace c0:=A4 hb c0;replace c1:=A4 hb c1;have hT:=zol;cases hH:Rc.hasCode codes.data.toList x.1 with
   | true =>
    rw[if_pos hH,<- hL.out]at hT;have HT:=J hT;clear hT;have HH:=J hH;clear hH hx
    go_wp2_with (first
     |(go_at_call 213;refine (r07_in_c x.1 codes _ oQ).mono ?_;rintro e w1 ⟨rfl,rfl⟩;rw[HH.out])
     |(at_builtin;go_must (refine Cy _ rfl _ _ 26 rfl W.heap.size 9 i0 (.string ⟨#[]⟩) 1 16 Tryz.underlying26 hi0 hz0 hz1 hz2 rfl oX _ L.length _ rfl (hown.alloc _) ⟨_,0,A0⟩ 1 1 [.string x.2] rfl rfl (Tx.cell_one_at _ _ oY _ _) oG oK oQ oW ?_);intro v' w2 hown2 hg2 hnil2))
    have hb2:=zcv;go_roundw
    case rel=>exact⟨k+1,L++[x.2],oQ,by go_num,J HT.out.symm,by simp;omega,by simpa using hown2,hb2⟩
    case measure=>simp[Aj];omega
   | false =>
    rw[if_neg (by simp[hH]),AB,<- hL.out]at hT;have HT:=J hT;clear hT;have HH:=J hH;clear hH hx;go_wp2_with (go_at_call 213;refine (r07_in_c x.1 codes _ oQ).mono ?_;rintro e w1 ⟨rfl,rfl⟩;rw[HH.out]);go_roundw
    case rel=>exact⟨k+1,L,oQ,by go_num,J HT.out.symm,oQ,hown,hb⟩
    case measure=>simp[Aj];omega
  ·obtain rfl:k=f.subs.length:=oQ;have hL2:=hL.out;rw[Rc.take_all]at hL2;subst hL2;obtain⟨va,vc,rfl,hsl⟩:=SLA.of_own hown rfl;go_wp2;go_ret;exact⟨va,vc,rfl,hsl,hbw⟩
theorem r07_Plain_c (f:CH) (a:Option Aq) (c:Nat) (codes:ByteArray) (w:Ab) (h:Gs w a c f.subs) (hg:Rc.Gd f) (hs:codes.size<=1000) :
  Af A8 191 #[.agg #[.string f.tag,.string f.ind,.slice a f.subs.length c,.int .i64 f.auth],.string codes] w fun e w'=>e=.returned (.string ⟨(Rc.plain f.subs codes.data.toList).toArray⟩)/\Below w.heap.size w w':=by
 have hlen:=hg.plain_le codes.data.toList;obtain⟨W,hW,hB,c0,c1,c2,c3⟩:=zal;have h1:=zfw;have HG:=J hg;have HLEN:=J hlen;clear hlen;go_enter Tryz.func191,Tryz.ntmps191
 go_wp2_with (first
  |(go_at_call 142;refine (r07_All_c f a c codes _ h1 HG.out.1 hs).mono ?_;rintro e w1 ⟨va,vc,rfl,hs1,hb1⟩)
  |(go_at_call 248;refine (r01_Join_c _ va vc ⟨#[32]⟩ _ hs1 (Au HLEN.out oQ)).mono ?_;rintro e w2 ⟨rfl,rfl⟩))
 go_ret;exact⟨rfl,Ac hB hb1⟩
theorem r07_Get_c (f:CH) (a:Option Aq) (c:Nat) (x:UInt8) (w:Ab) (h:Gs w a c f.subs) :
  Af A8 192 #[.agg #[.string f.tag,.string f.ind,.slice a f.subs.length c,.int .i64 f.auth],.int .u8 x.toNat] w fun e w'=>e=.returned (.tuple #[.string ((Hx f.subs x).getD ⟨#[]⟩),.bool (Hx f.subs x).isSome])/\Below w.heap.size w w':=by
 obtain⟨W,hW,hB,-,-,c2,-⟩:=zal;have h1:=zfw;have hcap:=h.cap;have hmx:Ap=9223372036854775807:=rfl;have hmax:=h.max;go_enter Tryz.func192,Tryz.ntmps192;go_wp2;clear hW;go_loop [6] (fun i=>∃ (k:Nat),k<=f.subs.length/\i=.int .i64 k/\Hid (Hx (f.subs.drop k) x=Hx f.subs x)) (fun i=>f.subs.length - (Aj i).toNat)
 case atStart=>exact⟨0,Am _,rfl,J iG⟩
 case round =>
  obtain⟨k,hk,rfl,hE⟩:=hrel;by_cases hlt:k<f.subs.length
  ·obtain⟨y,hy⟩:∃ y,f.subs[k]?=A3 y:=⟨_,Ai hlt⟩;obtain⟨b,o,rfl,hbl,d0,d1⟩:=h1.get hy;have hq:=Rc.u8_eq (a:=y.1) (b:=x)
   have hst:Hx (f.subs.drop k) x=if (y.1 == x)=true then A3 y.2 else Hx (f.subs.drop (k+1)) x:=by
    unfold Hx;rw[List.drop_eq_getElem_cons hlt,(Av.1 hy).2,List.find?_cons];cases y.1 == x <;> simp
   rw[hE.out]at hst;cases hyx:(y.1 == x) with
   | true =>
    rw[if_pos hyx]at hst;rw[hyx]at hq;have HS:=J hst;clear hst hyx hy;go_wp2;go_ret2;rw[HS.out];exact⟨rfl,hB⟩
   | false =>
    rw[if_neg (by simp[hyx])]at hst;rw[hyx]at hq;have HS:=J hst;clear hst hyx hy;go_wp2;go_round
    case rel=>exact⟨k+1,oQ,by go_num,J HS.out.symm⟩
    case measure=>simp[Aj];omega
  ·obtain rfl:k=f.subs.length:=oQ;have hE2:Hx f.subs x=A0:=by rw[<- hE.out,List.drop_length];rfl
   have HE:=J hE2;clear hE2 hE;go_wp2;go_ret2;rw[HE.out];exact⟨rfl,hB⟩
namespace Rc
open Go.Lib
theorem pre_cut {s p:ByteArray} (_:p.size<=s.size):((s.extract 0 p.size).toList == p.toList)=hasPrefix s.data.toList p.data.toList:=by
 have e:(s.extract 0 p.size).toList=s.data.toList.take p.data.toList.length:=by
  rw[AG,<- Ao];have:=Tx.extract_wid s 0 p.size;rw[Nat.zero_add,AU]at this;exact this
 rw[e,AG,Bool.eq_iff_iff,beq_iff_eq];unfold hasPrefix;rw[E7,List.prefix_iff_eq_take];constructor
 ·intro h;exact h.symm
 ·intro h;exact h.symm
theorem pre_long {s p:ByteArray} (h:¬ p.size<=s.size):hasPrefix s.data.toList p.data.toList=false:=by
 rw[Bool.eq_false_iff];unfold hasPrefix;rw[Ne,E7];intro h1;have:=h1.length_le;rw[<- Ao,<- Ao]at this;omega
theorem fieldsP_take {fs:List Fl}{k:Nat}{f:Fl} (p:By) (h:fs[k]?=A3 f):fieldsP (fs.take (k+1)) p=fieldsP (fs.take k) p++(if hasPrefix f.tag.data.toList p=true then [f] else []):=by
 unfold fieldsP;rw[Cz,h,List.filter_append];congr 1;cases hp:hasPrefix f.tag.data.toList p <;> simp[hp]
end Rc
theorem Begins_c (s p:ByteArray) (w:Ab) :
  Af A8 71 #[.string s,.string p] w fun e w'=>e=.returned (.bool (Dh s.data.toList p.data.toList))/\w=w':=by
 by_cases h:p.size<=s.size
 ·have hq:=Rc.pre_cut h;have g:((p.size:Int))<=(s.size:Int):=oQ;go_enter Tryz.func71,Tryz.ntmps71;go_wp2;go_ret;exact⟨AX (by first | exact hq | rfl),rfl⟩
 ·have HQ:=J (Rc.pre_long h);have g:((s.size:Int))<(p.size:Int):=oQ;go_enter Tryz.func71,Tryz.ntmps71;go_wp2;go_ret;exact⟨AX HQ.out.symm,rfl⟩
theorem Fields_c (fs:List CH) (a:Option Aq) (c:Nat) (id ver kind:Int) (lang:ByteArray) (p:ByteArray) (w:Ab) (h:Bz w a c fs) (hn:fs.length<=1000000) :
  Af A8 189 #[.agg #[.int .i64 id,.int .i64 ver,.int .i64 kind,.string lang,.slice a fs.length c],.string p] w fun e w'=>∃ va vc,e=.returned (.slice va (Gb fs p.data.toList).length vc)/\Bz w' va vc (Gb fs p.data.toList)/\Below w.heap.size w w':=by
 obtain⟨i0,hi0,hz0,hz1,hz2⟩:=info_parts info_fld;obtain⟨W,hW,hB,-,-,-,-,c4⟩:=zb;have hWs:=zlm;have hcap:=h.cap;have hmx:Ap=9223372036854775807:=rfl;have hmax:=h.max;go_enter Tryz.func189,Tryz.ntmps189;go_wp2;clear hW;go_loopw [5,6] (fun v i wr=>∃ (k:Nat) (T:List Rc.FT),k<=fs.length/\i=.int .i64 k/\Hid (T.map (·.1)=Gb (fs.take k) p.data.toList)/\Hid (∀ t∈T,Gs w t.2.1 t.2.2 t.1.subs)/\T.length<=k/\wr.ownsRow W.heap.size 84 4 v T.length (T.flatMap Rc.encF)/\Below W.heap.size W wr) (fun _ i _=>fs.length - (Aj i).toNat)
 case atStart=>exact⟨0,[],Am _,rfl,J rfl,J oZ,Ad _,World.ownsRow_lit (base:=W.heap.size) (e:=84) (size:=4) W #[] 0 oZ oK rfl,Tx.newb _ _⟩
 case round =>
  obtain⟨k,T,hk,rfl,hT,hTS,hTk,hown,hb⟩:=hrel;have hbs:=hb.size;have hbw:=znd;replace c4:=A4 hb c4;by_cases hlt:k<fs.length
  ·obtain⟨f,hf⟩:=zah;obtain⟨b,o,sa,sc,rfl,hbl,d0,d1,d2,d3,hsub⟩:=h.get hf;replace d0:=A4 hbw d0;replace d1:=A4 hbw d1;replace d2:=A4 hbw d2;replace d3:=A4 hbw d3;have hst:=Rc.fieldsP_take p.data.toList hf;rw[<- hT.out]at hst;cases hp:Dh f.tag.data.toList p.data.toList with
   | true =>
    rw[if_pos hp]at hst;have hT2:Hid ((T++[(f,sa,sc)]).map (·.1)=Gb (fs.take (k+1)) p.data.toList):=J (by rw[List.map_append];exact hst.symm)
    have hTS2:Hid (∀ t∈T++[(f,sa,sc)],Gs w t.2.1 t.2.2 t.1.subs):=J (fun t ht=>by
     rcases List.mem_append.1 ht with h9 | h9
     ·exact hTS.out t h9
     ·simp at h9;subst h9;exact hsub)
    have HP:=J hp;clear hp hst hf
    go_wp2_with (first
     |(go_at_call 71;refine (Begins_c f.tag p _).mono ?_;rintro e w1 ⟨rfl,rfl⟩;rw[HP.out])
     |(at_builtin;go_must (refine Cy _ rfl _ _ 49 rfl W.heap.size 84 i0 _ 4 64 Tryz.underlying49 hi0 hz0 hz1 hz2 rfl oX _ T.length _ rfl (hown.alloc _) ⟨_,0,A0⟩ 1 1 (Rc.encF (f,sa,sc)) rfl rfl (Rc.f_new _ _ oY f sa sc _) (Rc.f_one _) oK oQ oW ?_);intro v' w2 hown2 hg2 hnil2))
    have hb2:=zcv;go_roundw
    case rel=>exact⟨k+1,T++[(f,sa,sc)],oQ,by go_num,hT2,hTS2,by simp;omega,by simpa using hown2,hb2⟩
    case measure=>simp[Aj];omega
   | false =>
    rw[if_neg (by simp[hp]),AB]at hst;have HP:=J hp;clear hp hf;have HS:=J hst;clear hst;go_wp2_with (go_at_call 71;refine (Begins_c f.tag p _).mono ?_;rintro e w1 ⟨rfl,rfl⟩;rw[HP.out]);go_roundw
    case rel=>exact⟨k+1,T,oQ,by go_num,J HS.out.symm,hTS,oQ,hown,hb⟩
    case measure=>simp[Aj];omega
  ·obtain rfl:k=fs.length:=oQ;have hT9:=hT.out;rw[At]at hT9;obtain⟨va,vc,rfl,hF⟩:=Rc.FldA.of_own hown rfl (fun t ht=>(hTS.out t ht).below hbw);rw[hT9]at hF ⊢;clear hT hT9 hTS;go_wp2;go_ret;exact⟨va,vc,rfl,hF,hbw⟩
namespace Rc
theorem head_at {α:Type}{l:List α}:l.head?=l[0]?:=by cases l <;> rfl
theorem titleR_le {fs:List Fl} (h:∀ f∈fs,Gd f) {f:Fl} (hf:(fieldsP fs [50,52,53])[0]?=A3 f):Gd f:=h f (List.mem_filter.1 (show f∈fs.filter _ from AJ hf)).1
theorem titleR_none {fs:List Fl} (h:(fieldsP fs [50,52,53])[0]?=A0):titleR fs=[]:=by unfold titleR;rw[head_at,h]
theorem titleR_some {fs:List Fl}{f:Fl} (h:(fieldsP fs [50,52,53])[0]?=A3 f):titleR fs=Tx.clean (plain f.subs [97,98]):=by unfold titleR;rw[head_at,h]
end Rc
theorem r08_Title_c (fs:List CH) (a:Option Aq) (c:Nat) (id ver kind:Int) (lang:ByteArray) (w:Ab) (h:Bz w a c fs) (hg:∀ f∈fs,Rc.Gd f) (hn:fs.length<=1000000) :
  Af A8 111 #[.agg #[.int .i64 id,.int .i64 ver,.int .i64 kind,.string lang,.slice a fs.length c]] w fun e w'=>e=.returned (.string ⟨(Rc.titleR fs).toArray⟩)/\Below w.heap.size w w':=by
 obtain⟨W,hW,hB,c0,c1,c2,c3,c4⟩:=zb;have h1:=zfw;have hmx:Ap=9223372036854775807:=rfl;obtain⟨L,hL⟩:∃ L,Gb fs [50,52,53]=L:=⟨_,rfl⟩;cases h0:L[0]? with
 | none =>
  have HT:=J (Rc.titleR_none (fs:=fs) yB);have hl0:=zmu;have HL0:=J hl0;clear hl0;have HL:=J hL;clear hL h0;go_enter Tryz.func111,Tryz.ntmps111;go_wp2_with (go_at_call 189;refine (Fields_c fs a c id ver kind lang ⟨#[50,52,53]⟩ _ h1 hn).mono ?_;rintro e w1 ⟨va,vc,rfl,hF,hb1⟩;rw[show Gb fs (⟨#[50,52,53]⟩:ByteArray).data.toList=[] from HL.out.trans HL0.out]at hF ⊢);go_ret;exact⟨Fv (by rw[HT.out]),Ac hB hb1⟩
 | some f =>
  have HT:=J (Rc.titleR_some (fs:=fs) (f:=f) yB);have HG:=J (Rc.titleR_le hg (f:=f) yB);have hl0:0<L.length:=(Av.1 h0).1;have hll:=zkx;have hpl:=HG.out.plain_le [97,98];have HL:=J hL;clear hL;have H0:=J h0;clear h0;go_enter Tryz.func111,Tryz.ntmps111
  go_wp2_with (first
   |(go_at_call 189;refine (Fields_c fs a c id ver kind lang ⟨#[50,52,53]⟩ _ h1 hn).mono ?_;rintro e w1 ⟨va,vc,rfl,hF,hb1⟩;rw[show Gb fs (⟨#[50,52,53]⟩:ByteArray).data.toList=L from HL.out]at hF ⊢;obtain⟨b,o,sa,sc,rfl,hbl,d0,d1,d2,d3,hsub⟩:=hF.get H0.out;rw[F7,BN]at d0 d1 d2 d3)
   |(go_at_call 191;refine (r07_Plain_c f sa sc ⟨#[97,98]⟩ _ hsub HG.out oX).mono ?_;rintro e w2 ⟨rfl,hb2⟩)
   |(go_at_call 190;refine (r01_Clean_c _ _ QF).mono ?_;rintro e w3 ⟨rfl,hb3⟩))
  go_ret;exact⟨Fv (by rw[HT.out]),Ac (Ac (Ac hB hb1) hb2) hb3⟩
namespace Rc
open Go.Lib
theorem authorR_step (fs:List Fl) (t:By) (ts:List By):authorR fs (t::ts)=match (fieldsP fs t)[0]? with
  | none=>authorR fs ts
  | some f=>match get f.subs 97 with
   | some v=>v.data.toList
   | none=>authorR fs ts:=by rw[authorR,head_at];cases (fieldsP fs t)[0]? <;> rfl
theorem authorR_none {fs:List Fl}{t:By}{ts:List By} (h:(fieldsP fs t)[0]?=A0):authorR fs (t::ts)=authorR fs ts:=by rw[authorR_step,h]
theorem authorR_no {fs:List Fl}{t:By}{ts:List By}{f:Fl} (h:(fieldsP fs t)[0]?=A3 f) (hg:get f.subs 97=A0):authorR fs (t::ts)=authorR fs ts:=by rw[authorR_step,h];simp only[hg]
theorem authorR_yes {fs:List Fl}{t:By}{ts:List By}{f:Fl}{v:ByteArray} (h:(fieldsP fs t)[0]?=A3 f) (hg:get f.subs 97=A3 v):authorR fs (t::ts)=v.data.toList:=by rw[authorR_step,h];simp only[hg]
theorem tags3_at {k:Nat} (h:k<3):∃ x y z:UInt8,tags3[k]?=A3 [x,y,z]/\tags3.drop k=[x,y,z]::tags3.drop (k+1)/\(#[Value.string ⟨#[49,48,48]⟩,.string ⟨#[49,49,48]⟩,.string ⟨#[55,48,48]⟩]:Array Value)[k]?=A3 (.string ⟨#[x,y,z]⟩):=by
 match k,h with
 | 0,_=>exact⟨49,48,48,rfl,rfl,rfl⟩
 | 1,_=>exact⟨49,49,48,rfl,rfl,rfl⟩
 | 2,_=>exact⟨55,48,48,rfl,rfl,rfl⟩
end Rc
theorem v3m (h:P:=by
 obtain⟨b,o,sa,sc,rfl,hbl,e0,e1,e2,e3,hsub⟩:=hF.get H0.out;rw[F7,BN]at e0 e1 e2 e3;have hl1:0<L.length:=HLL.out;go_wp2_with (go_at_call 192;refine (r07_Get_c f sa sc 97 _ hsub).mono ?_;rintro e w2 ⟨rfl,hb2⟩;rw[HV.out])
 first
  |go_roundw
   case rel=>exact⟨k+1,oQ,by go_num,HI,Ac (Ac hb.drew hb1) hb2⟩
   case measure=>simp[Aj];omega
  |go_ret
   exact⟨Fv (by rw[<- HI.out]),Ac (Ac hbw.drew hb1) hb2⟩):P:=h
theorem vv8 (h:P:=by
 go_wp2
 go_region_held3 (fun w'=>w'.cell? ⟨w.heap.size,0,A0⟩=A3 (.int .i64 id)/\w'.cell? ⟨w.heap.size,1,A0⟩=A3 (.int .i64 ver)/\w'.cell? ⟨w.heap.size,2,A0⟩=A3 (.int .i64 kind)/\w'.cell? ⟨w.heap.size,3,A0⟩=A3 (.string lang)/\w'.cell? ⟨w.heap.size,4,A0⟩=A3 (.slice a fs.length c)/\w'.cell? ⟨w.heap.size+1,k,A0⟩=A3 (.string ⟨#[x,y,z]⟩)) (go_keep)
  (first | ((go_at_call 189;refine (Fields_c fs a c id ver kind lang ⟨#[x,y,z]⟩ _ hS2 hn).mono ?_;rintro e w1 ⟨va,vc,rfl,hF,hb1⟩;have hb1u:=Tx.undrew hb1;replace c0:=A4 hb1u c0;replace c1:=A4 hb1u c1;replace c2:=A4 hb1u c2;replace c3:=A4 hb1u c3;replace c4:=A4 hb1u c4;replace d0:=A4 hb1u d0)))
 first
  |rw[show Gb fs (⟨#[x,y,z]⟩:ByteArray).data.toList=L from HL.out]at hF ⊢
   exact v3m
  |rw[show Gb fs (⟨#[x,y,z]⟩:ByteArray).data.toList=[] from HL.out]at hF ⊢
   go_wp2;go_roundw
   case rel=>exact⟨k+1,oQ,by go_num,HI,Ac hb.drew hb1⟩
   case measure=>simp[Aj];omega):P:=h
theorem r08_Author_c (fs:List CH) (a:Option Aq) (c:Nat) (id ver kind:Int) (lang:ByteArray) (w:Ab) (h:Bz w a c fs) (hn:fs.length<=1000000) :
  Af A8 112 #[.agg #[.int .i64 id,.int .i64 ver,.int .i64 kind,.string lang,.slice a fs.length c]] w fun e w'=>e=.returned (.string ⟨(Rc.authorR fs Rc.tags3).toArray⟩)/\Below w.heap.size w w':=by
 obtain⟨W,hW⟩:=zbj;have hB:=zk;have c0:=zkj;have c1:=zkc;have c2:=zjt;have c3:=zkk;have c4:=zev
 have ct:∀ k,W.cell? ⟨w.heap.size+1,k,A0⟩=(#[Value.string ⟨#[49,48,48]⟩,.string ⟨#[49,49,48]⟩,.string ⟨#[55,48,48]⟩]:Array Value)[k]?:=fun k=>by
  rw[<- hW];simp
 have hS:=zfw;have hmx:Ap=9223372036854775807:=rfl;have hws:w.heap.size+1<W.heap.size:=by rw[<- hW];simp
 have HCT:=J ct;clear ct;go_enter Tryz.func112,Tryz.ntmps112;go_wp2;clear hW;go_loopw [4,5,6,7] (fun i _ _ _ wr=>∃ (k:Nat),k<=3/\i=.int .i64 k/\Hid (Rc.authorR fs (Rc.tags3.drop k)=Rc.authorR fs Rc.tags3)/\Below W.heap.size W wr) (fun i _ _ _ _=>3 - (Aj i).toNat)
 case atStart=>exact⟨0,oQ,rfl,J rfl,Below.refl _ _⟩
 case round =>
  obtain⟨k,hk,rfl,hI,hb⟩:=hrel;have hbs:=hb.size;have hbw:=znd;replace c0:=A4 hb c0;replace c1:=A4 hb c1;replace c2:=A4 hb c2;replace c3:=A4 hb c3;replace c4:=A4 hb c4;by_cases hlt:k<3
  ·obtain⟨x,y,z,hxyz,hdr,hcl⟩:=Rc.tags3_at hlt;have d0:wr.cell? ⟨w.heap.size+1,k,A0⟩=A3 (.string ⟨#[x,y,z]⟩):=A4 hb ((HCT.out k).trans hcl);have hS2:=hS.below hb.drew;have hI2:=hI.out;rw[hdr]at hI2;have g1:(k:Int)<3:=oQ;obtain⟨L,hL⟩:∃ L,Gb fs [x,y,z]=L:=⟨_,rfl⟩;have hll:=zkx;cases h0:L[0]? with
   | none =>
    have hl0:=zmu;rw[Rc.authorR_none yB]at hI2;have HI:=J hI2;have HL:=J (hL.trans hl0);clear hI2 hL hl0 h0 hxyz hdr hcl hI hll;exact vv8
   | some f =>
    have HLL:=J (show 0<L.length from (Av.1 h0).1);have hg0:(Gb fs [x,y,z])[0]?=A3 f:=by rw[hL];exact h0
    have HL:=J hL;clear hL;have H0:=J h0;clear h0;cases hv:Hx f.subs 97 with
    | none =>
     rw[Rc.authorR_no hg0 hv]at hI2;have HI:=J hI2;have HV:=J hv;clear hg0 hv;clear hI2 hxyz hdr hcl hI;exact vv8
    | some v =>
     rw[Rc.authorR_yes hg0 hv]at hI2;have HI:=J hI2;have HV:=J hv;clear hg0 hv;clear hI2 hxyz hdr hcl hI;exact vv8
  ·obtain rfl:k=3:=oQ;have hI2:=hI.out;have HI:=J hI2;clear hI2 hI;go_wp2;go_ret;exact⟨Fv (by rw[<- HI.out];rfl),hbw⟩
namespace Rc
open Go.Lib
def YS (L:By) (Y i n d:Nat):Prop:=(i<=L.length->yr n d (L.drop i)=Y)/\(L.length<i->Y=0)
def YB (n d:Nat):Prop:=n<10 ^ (min d 4)
theorem YB.zero:YB 0 0:=by unfold YB;decide
theorem YB.le {n d:Nat} (h:YB n d):n<=9999:=by
 unfold YB at h;have:10 ^ (min d 4)<=10 ^ 4:=Jk oQ oQ;omega
theorem YB.d3 {n d:Nat} (h:YB n d) (hd:d+1<=4):n<=999:=by
 unfold YB at h;have:10 ^ (min d 4)<=10 ^ 3:=Jk oQ oQ;omega
theorem YB.dig {n d:Nat} (h:YB n d) (hd:d+1<=4) {c:Nat} (hc:c<=9):YB (n*10+c) (d+1):=by
 unfold YB at *;rw[show min (d+1) 4=d+1 by omega,Nat.pow_succ];rw[show min d 4=d by omega]at h;omega
theorem YB.more {n d:Nat} (h:YB n d) (hd:¬ d+1<=4):YB n (d+1):=by
 unfold YB at *;rw[show min (d+1) 4=4 by omega];rw[show min d 4=4 by omega]at h;exact h
theorem YS.digit {L:By}{Y i n d:Nat} (h:YS L Y i n d) {c:UInt8} (hi:i<L.length) (hc:L.getD i 0=c) (hd:isD c):YS L Y (i+1) (if d+1<=4 then n*10+(c.toNat - 48) else n) (d+1):=by
 refine⟨fun _=>?_,fun h9=>oQ⟩;have:=h.1 oQ;rw[drop_cons L i hi,hc,yr_digit _ _ _ _ hd]at this;exact this
theorem YS.other {L:By}{Y i n d:Nat} (h:YS L Y i n d) (hi:i<=L.length) (hc:i<L.length->¬ isD (L.getD i 0)):(d=4/\1000<=n/\n<=2199->Y=n)/\(¬ (d=4/\1000<=n/\n<=2199)->YS L Y (i+1) 0 0):=by
 have h1:=h.1 hi;rcases D5 i L.length with hl | hl
 ·rw[drop_cons L i hl,yr_other _ _ _ _ (hc hl)]at h1;exact⟨fun h9=>by rw[if_pos h9]at h1;exact h1.symm,fun h9=>by rw[if_neg h9]at h1;exact⟨fun _=>h1,fun h8=>oQ⟩⟩
 ·rw[AS hl,yr_nil]at h1;exact⟨fun h9=>by rw[if_pos h9]at h1;exact h1.symm,fun h9=>by rw[if_neg h9]at h1;exact⟨fun h8=>oQ,fun _=>h1.symm⟩⟩
end Rc
theorem y23 (h:P:=by
 go_wp2;go_round
 case rel=>exact⟨i+1,0,0,oQ,oQ,rfl,rfl,by go_num,HN,J Rc.YB.zero⟩
 case measure=>simp[Aj];omega):P:=h
theorem y3v (h:P:=by
 by_cases hd:d=4
 ·subst hd;by_cases h5:n<1000
  ·have h5':(n:Int)<1000:=oQ;exact y23
  ·have h5':(1000:Int)<=(n:Int):=oQ;have h6':(2199:Int)<(n:Int):=oQ;exact y23
 ·have hd':((d:Int) == 4)=false:=beq_eq_false_iff_ne.2 oQ;clear hd;exact y23):P:=h
theorem ydm (h:P:=by
 go_wp2;go_round
 case rel=>exact⟨s.size+1,0,0,oQ,oQ,rfl,rfl,by go_num,HN,J Rc.YB.zero⟩
 case measure=>simp[Aj]):P:=h
theorem r08_year_c (s:ByteArray) (w:Ab) (hs:s.size<=1000000000) :
  Af A8 193 #[.string s] w fun e w'=>e=.returned (.int .i64 (In s.data.toList))/\w=w':=by
 obtain⟨Y,hY⟩:∃ Y,In s.data.toList=Y:=⟨_,rfl⟩;have HY:=J hY;clear hY;go_enter Tryz.func193,Tryz.ntmps193;go_wp2;go_loop [3,4,5] (fun vn vd vi=>∃ (i n d:Nat),i<=s.size+1/\d<=i/\vn=.int .i64 n/\vd=.int .i64 d/\vi=.int .i64 i/\Hid (Rc.YS s.data.toList Y i n d)/\Hid (Rc.YB n d)) (fun _ _ i=>s.size+1 - (Aj i).toNat)
 case atStart=>exact⟨0,0,0,oQ,Ad _,rfl,rfl,rfl,J ⟨fun _=>HY.out,fun h=>absurd h oQ⟩,J Rc.YB.zero⟩
 case round =>
  obtain⟨i,n,d,hi,hdi,rfl,rfl,rfl,hYS,hYB⟩:=hrel;have hn9:=hYB.out.le;by_cases hle:i<=s.size
  ·obtain⟨x,hx⟩:∃ x,s.data.toList.getD i 0=x:=⟨_,rfl⟩;have e0:∀ h,s[i]'h=x:=fun h=>by rw[<- hx,Tx.getD_at s i h]
   have hL:=Ao s;have HL:=J hL;clear hL;by_cases hdig:i<s.size/\48<=x.toNat/\x.toNat<=57
   ·obtain⟨hlt,g1,g2⟩:=hdig;have hst:=hYS.out.digit (by rw[<- HL.out];exact hlt) hx ⟨g1,g2⟩;have g1':(48:Int)<=(x.toNat:Int):=oQ;have g2':(x.toNat:Int)<=57:=oQ;by_cases hd4:d+1<=4
    ·rw[if_pos hd4]at hst;have HB:=J (hYB.out.dig hd4 (c:=x.toNat - 48) oQ);have hn3:=hYB.out.d3 hd4;have HS:=J hst;clear hst hx;go_wp2;go_round
     case rel=>exact⟨i+1,n*10+(x.toNat - 48),d+1,oQ,oQ,by go_num,by go_num,by go_num,HS,HB⟩
     case measure=>simp[Aj];omega
    ·rw[if_neg hd4]at hst;have HB:=J (hYB.out.more hd4);have HS:=J hst;clear hst hx;go_wp2;go_round
     case rel=>exact⟨i+1,n,d+1,oQ,oQ,rfl,by go_num,by go_num,HS,HB⟩
     case measure=>simp[Aj];omega
   ·obtain⟨ho1,ho2⟩:=hYS.out.other (by rw[<- HL.out];exact hle) (fun hl9 hd9=>hdig ⟨by rw[HL.out];exact hl9,by rw[<- hx];exact hd9⟩);by_cases hyes:d=4/\1000<=n/\n<=2199
    ·have HN:=J (ho1 hyes);obtain⟨rfl,g3,g4⟩:=hyes;have g3':(1000:Int)<=(n:Int):=oQ;have g4':(n:Int)<=2199:=oQ;clear ho1 ho2 hx;rcases (show i=s.size\/(i<s.size/\x.toNat<48)\/(i<s.size/\48<=x.toNat/\57<x.toNat) by omega) with rfl | ⟨h1,h2⟩ | ⟨h1,h2,h3⟩
     ·clear e0;go_wp2;go_ret;exact⟨AV UJ,rfl⟩
     ·have h2':(x.toNat:Int)<48:=oQ;go_wp2;go_ret;exact⟨AV UJ,rfl⟩
     ·have h2':(48:Int)<=(x.toNat:Int):=oQ;have h3':(57:Int)<(x.toNat:Int):=oQ;go_wp2;go_ret;exact⟨AV UJ,rfl⟩
    ·have HN:=J (ho2 hyes);clear ho1 ho2 hx;rcases (show i=s.size\/(i<s.size/\x.toNat<48)\/(i<s.size/\48<=x.toNat/\57<x.toNat) by omega) with rfl | ⟨h1,h2⟩ | ⟨h1,h2,h3⟩
     ·clear e0;by_cases hd:d=4
      ·subst hd;by_cases h5:n<1000
       ·have h5':(n:Int)<1000:=oQ;exact ydm
       ·have h5':(1000:Int)<=(n:Int):=oQ;have h6':(2199:Int)<(n:Int):=oQ;exact ydm
      ·have hd':((d:Int) == 4)=false:=beq_eq_false_iff_ne.2 oQ;clear hd;exact ydm
     ·have h2':(x.toNat:Int)<48:=oQ;exact y3v
     ·have h2':(48:Int)<=(x.toNat:Int):=oQ;have h3':(57:Int)<(x.toNat:Int):=oQ;exact y3v
  ·obtain rfl:i=s.size+1:=oQ;have h0:Y=0:=hYS.out.2 aK;have H0:=J h0;clear h0;go_wp2;go_ret;exact⟨AV (by rw[HY.out,H0.out];rfl),rfl⟩
theorem r08_Year_c (fs:List CH) (a:Option Aq) (c:Nat) (id ver kind:Int) (lang:ByteArray) (w:Ab) (h:Bz w a c fs) (hg:∀ f∈fs,Rc.Gd f) :
  Af A8 113 #[.agg #[.int .i64 id,.int .i64 ver,.int .i64 kind,.string lang,.slice a fs.length c]] w fun e w'=>e=.returned (.int .i64 (Rc.year fs))/\Below w.heap.size w w':=by
 obtain⟨W,hW,hB,-,-,-,-,c4⟩:=zb;have hS:=zfw;have hcap:=h.cap;have hmx:Ap=9223372036854775807:=rfl;have hmax:=h.max;obtain⟨ys,hys⟩:=zgt;have hyr:Rc.year fs=Jg ys:=by rw[<- hys];rfl
 have HYS:=J hys;clear hys;go_enter Tryz.func113,Tryz.ntmps113;go_wp2;clear hW;go_loopw [3,4,5,6] (fun i _ _ _ wr=>∃ (k:Nat),k<=fs.length/\i=.int .i64 k/\Hid (Jg (ys.drop k)=Rc.year fs)/\Below W.heap.size W wr) (fun i _ _ _ _=>fs.length - (Aj i).toNat)
 case atStart=>exact⟨0,Am _,rfl,J (by rw[AU,hyr]),Below.refl _ _⟩
 case round =>
  obtain⟨k,hk,rfl,hI,hb⟩:=hrel;clear hyr;have hbw:=znd;replace c4:=A4 hb c4;by_cases hlt:k<fs.length
  ·obtain⟨f,hf⟩:=zah;have hgf:=hg f (AJ hf);obtain⟨b,o,sa,sc,rfl,hbl,d0,d1,d2,d3,hsub⟩:=hS.get hf;replace d0:=A4 hb d0;replace d1:=A4 hb d1;replace d2:=A4 hb d2;replace d3:=A4 hb d3;have hsub1:=hsub.below hb;have hyk:=zep;have hst:=Rc.firstNZ_step hyk;rw[hI.out]at hst;cases h0:Rc.tagIs [50,54,48] f <;> cases h4:Rc.tagIs [50,54,52] f
   ·obtain⟨e0,e4,ep⟩:=Rc.pub_eq f h0 h4;rw[ep]at hst;simp only[Bool.or_self,Bool.false_eq_true,if_false,if_true]at hst;have n0:(f.tag.toList != [50,54,48])=true:=by rw[bne,e0];rfl
    have n4:(f.tag.toList != [50,54,52])=true:=by rw[bne,e4];rfl
    have HS:=J hst;clear hst h0 h4 ep hyk;go_wp2;go_roundw
    case rel=>exact⟨k+1,oQ,by go_num,J HS.out.symm,hb⟩
    case measure=>simp[Aj];omega
   all_goals
    obtain⟨e0,e4,ep⟩:=Rc.pub_eq f h0 h4;rw[ep]at hst;simp only[Bool.or_self,Bool.or_true,Bool.true_or,if_true]at hst;have n0:(f.tag.toList != [50,54,48])=!(f.tag.toList == [50,54,48]):=rfl;have n4:(f.tag.toList != [50,54,52])=!(f.tag.toList == [50,54,52]):=rfl;rw[e0]at n0;rw[e4]at n4;simp only[Bool.not_true,Bool.not_false]at n0 n4;obtain⟨L,hL⟩:∃ L,DJ f.subs [99]=L:=⟨_,rfl⟩;have hsz:=zjf;have hll:=zpq;rw[hL]at hst;have HS:=J hst;clear hst h0 h4 ep hyk;have HL:=J hL;clear hL;have HZ:=J hsz;clear hsz;have HG:=J hgf;clear hgf;go_wp2_with (go_at_call 142;refine (r07_All_c f sa sc ⟨#[99]⟩ _ hsub1 HG.out.1 oX).mono ?_;rintro e w1 ⟨va,vc,rfl,hsla,hb1⟩;rw[show DJ f.subs (⟨#[99]⟩:ByteArray).data.toList=L from HL.out]at hsla ⊢);have hbo:=Ac hb hb1;replace c4:=A4 hb1 c4;go_loop [5,6] (fun j _=>∃ (m:Nat),m<=L.length/\j=.int .i64 m/\Hid (Jg ((L.map fun x=>In x.data.toList).drop m)=Rc.yearF L)) (fun j _=>L.length - (Aj j).toNat)
    case atStart=>exact⟨0,Am _,rfl,J aD⟩
    case round =>
     obtain⟨m,hm,rfl,hJ⟩:=hrel;by_cases hml:m<L.length
     ·obtain⟨x,hx⟩:=zou;have hxs:=zhc;obtain⟨b5,o5,rfl,hbl5,f0⟩:=hsla.get hx;have hst:=zdk;rw[hJ.out]at hst;obtain⟨Y,hY⟩:∃ Y,In x.data.toList=Y:=⟨_,rfl⟩;rw[hY]at hst;have HY:=J hY;clear hY hx;by_cases hy0:Y=0
      ·subst hy0;rw[if_pos rfl]at hst;have HT:=J hst;clear hst;go_wp2_with (go_at_call 193;refine (r08_year_c x _ oQ).mono ?_;rintro e w3 ⟨rfl,rfl⟩;rw[HY.out]);go_round
       case rel=>exact⟨m+1,oQ,by go_num,J HT.out.symm⟩
       case measure=>simp[Aj];omega
      ·rw[if_neg hy0]at hst;have HT:=J hst;clear hst;have hyp:0<(Y:Int):=oQ;have hyp2:0<Y:=oQ;have HU:=HS.out;rw[HT.out,if_neg hy0]at HU;have HU2:=J HU;clear HU hy0;go_wp2_with (go_at_call 193;refine (r08_year_c x _ oQ).mono ?_;rintro e w3 ⟨rfl,rfl⟩;rw[HY.out]);go_ret;exact⟨AV (by rw[HU2.out]),Ac hbw hb1⟩
     ·obtain rfl:m=L.length:=oQ;have hv:=hJ.out;rw[AS eK]at hv;have HU:=HS.out;rw[<- hv,if_pos (show Jg []=0 from rfl)]at HU;have HU2:=J HU;clear HU hv;go_wp2;go_roundw
      case rel=>exact⟨k+1,oQ,by go_num,J HU2.out.symm,hbo⟩
      case measure=>simp[Aj];omega
  ·obtain rfl:k=fs.length:=oQ;have hv:=hI.out;rw[AS zso]at hv;have HV:=J hv;clear hv;go_wp2;go_ret;exact⟨AV (by rw[<- HV.out];rfl),hbw⟩
end Go.Proofs.YtlakomilichhnaaGreatDoor
