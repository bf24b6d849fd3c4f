/- Parts. -/
import Derived.Test.YtlakomilichhnaaGreatDoorRMa
import Derived.Lib.ValidLaws
import Derived.Lib.FieldsP
import Derived.Lib.Join
import Derived.Lib.Atoi
import Derived.Lib.AtoiAll
import Derived.Lib.ItoaNum
import Derived.Test.YtlakomilichhnaaGreatDoorProg
import Derived.Lib.Split
import Derived.Lib.SlicesCompact
import Derived.Lib.RuneCount
import Derived.Lib.TrimByte
namespace Go.Proofs.YtlakomilichhnaaGreatDoor
set_option maxHeartbeats 4000000
set_option maxRecDepth 100000
open Go.RowKit
open Bool renaming eq_false_iff->CV,eq_iff_iff->Bx,false_eq_true->Ca
open Lib renaming contains->Mk,cut->Fg,hid->J
open List renaming append_assoc->AW,cons_append->BU,cons_prefix_cons->FZ,dropWhile_cons->Fx,drop_append_of_le_length->Gn,drop_drop->BQ,drop_eq_nil_of_le->AS,drop_zero->AU,eq_nil_of_length_eq_zero->Ar,foldl_cons->Ge,getD_eq_getElem?_getD->Bi,getElem?_eq_getElem->Ai,isPrefixOf_iff_prefix->E7,length->Dl,length_append->Ag,length_cons->AH,length_drop->Ay,length_map->Ax,length_nil->Bw,length_pos_iff->Dz,length_take->Az,lt_irrefl->FW,map_append->AY,map_cons->BX,map_map->DF,map_nil->Do,mem_append->AQ,mem_cons->AL,mem_cons_of_mem->BH,mem_cons_self->B8,mem_filter->Be,mem_iff_getElem->M4,mem_map->BG,mem_of_find?_eq_some->JJ,mem_of_mem_drop->Hj,nil_append->C8,pairwise_cons->Dw,range->Kx,takeWhile_cons->Gr,take_append_drop->BY
open Nat renaming add_zero->BN,le_refl->Ad,le_trans->Au,lt_or_ge->D5,not_lt_zero->Md,succ_mul->Gc
open Option renaming bind_some->Fa,none->A0,some->A3
open Option.some renaming injEq->KH
open UInt8 renaming ofNat->Dm,toNat_lt->Fj,toNat_ofNat'->Ke
variable {P:Prop}
namespace Tx
open Go.Lib
def rdecN (n b0 b1 b2:Nat):Nat × Nat :=
  if 32<=b0/\b0<127 then (b0,1)
  else if 194<=b0/\b0<224/\1<n/\128<=b1/\b1<192 then
    (if 160<=(b0 - 192)*64+b1 - 128 then ((b0 - 192)*64+b1 - 128,2) else (0,0))
  else if 224<=b0/\b0<240/\2<n/\128<=b1/\b1<192/\128<=b2/\b2<192 then
    (if 2048 <= (b0 - 224) * 4096 + (b1 - 128) * 64 + b2 - 128 /\ ((b0 - 224) * 4096 + (b1 - 128) * 64 + b2 - 128 < 55296 \/ 57343 < (b0 - 224) * 4096 + (b1 - 128) * 64 + b2 - 128)
     then ((b0 - 224)*4096+(b1 - 128)*64+b2 - 128,3) else (0,0))
  else (0,0)
def okN (c k:Nat):Bool:=decide (¬ (c=65533/\k=1)/\32<=c/\¬ (127<=c/\c<=159)/\c<=65535)
theorem okN_true {c k:Nat}:okN c k=true↔(¬ (c=65533/\k=1)/\32<=c/\¬ (127<=c/\c<=159)/\c<=65535):=by unfold okN;exact decide_eq_true_iff
theorem okN_false {c k:Nat}:okN c k=false↔¬ (¬ (c=65533/\k=1)/\32<=c/\¬ (127<=c/\c<=159)/\c<=65535):=by rw[<- okN_true];simp
theorem rdecN_eq (n b0 b1 b2 b3:Nat) (h0:b0<256) (h1:b1<256) (h2:b2<256) (_h3:b3<256) :
  rdecN n b0 b1 b2=if okN (decodeN n b0 b1 b2 b3).1 (decodeN n b0 b1 b2 b3).2=true then decodeN n b0 b1 b2 b3 else (0,0):=by
 by_cases ha:b0<128
 ·have e:decodeN n b0 b1 b2 b3=(b0,1):=by simp[decodeN,ha]
  rw[e];simp only[okN_true];unfold rdecN
  repeat' split
  all_goals first | rfl | (exfalso;omega)
 ·by_cases hb:b0 / 32=6
  ·have e:decodeN n b0 b1 b2 b3=if 1<n/\b1 / 64=2 then (if b0 % 32*64+b1 % 64 ≥ 128 then (b0 % 32*64+b1 % 64,2) else (65533,1)) else (65533,1):=by
    unfold decodeN;rw[if_neg ha];by_cases hc:1<n/\b1 / 64=2
    ·rw[if_pos ⟨hb,hc⟩,if_pos hc]
    ·rw[if_neg oQ,if_neg oQ,if_neg oQ,if_neg hc]
   rw[e];simp only[okN_true];unfold rdecN
   repeat' split
   all_goals first | rfl | (exfalso;omega) | (simp only[Prod.mk.injEq,and_true];omega) | (simp at *;omega)
  ·by_cases hd:b0 / 16=14
   ·have e:decodeN n b0 b1 b2 b3=if (1<n/\b1 / 64=2)/\(2<n/\b2 / 64=2) then (if b0 % 16*4096+b1 % 64*64+b2 % 64 ≥ 2048/\(b0 % 16*4096+b1 % 64*64+b2 % 64<55296\/57344<=b0 % 16*4096+b1 % 64*64+b2 % 64) then (b0 % 16*4096+b1 % 64*64+b2 % 64,3) else (65533,1)) else (65533,1):=by
     unfold decodeN;rw[if_neg ha,if_neg oQ];by_cases hc:(1<n/\b1 / 64=2)/\(2<n/\b2 / 64=2)
     ·rw[if_pos ⟨hd,hc⟩,if_pos hc];by_cases hx:b0 % 16*4096+b1 % 64*64+b2 % 64 ≥ 2048/\(b0 % 16*4096+b1 % 64*64+b2 % 64<55296\/57344<=b0 % 16*4096+b1 % 64*64+b2 % 64)
      ·rw[if_pos oQ,if_pos hx]
      ·rw[if_neg oQ,if_neg hx]
     ·rw[if_neg oQ,if_neg oQ,if_neg hc]
    rw[e];simp only[okN_true];unfold rdecN
    repeat' split
    all_goals first | rfl | (exfalso;omega) | (simp only[Prod.mk.injEq,and_true];omega) | (simp at *;omega)
   ·have e:rdecN n b0 b1 b2=(0,0):=by
     unfold rdecN;rw[if_neg oQ,if_neg oQ,if_neg oQ]
    have e2:okN (decodeN n b0 b1 b2 b3).1 (decodeN n b0 b1 b2 b3).2=false:=by
     unfold decodeN;rw[if_neg ha,if_neg oQ,if_neg oQ];rw[okN_false]
     repeat' split
     all_goals first | omega | simp
    rw[e,e2];simp
def rdec (l:List UInt8):Nat × Nat:=rdecN l.length (l.getD 0 0).toNat (l.getD 1 0).toNat (l.getD 2 0).toNat
theorem rdec_eq (l:List UInt8):rdec l=if okN (decodeL l).1 (decodeL l).2=true then decodeL l else (0,0):=by
 unfold rdec;rw[decodeL_N];exact rdecN_eq _ _ _ _ _ (Fj _) (Fj _) (Fj _) (Fj _)
theorem rdec_good {l:List UInt8} (h:(rdec l).2≠0):decodeL l=rdec l/\okN (decodeL l).1 (decodeL l).2=true:=by
 rw[rdec_eq]at h ⊢;split
 ·rename_i hk;exact⟨rfl,hk⟩
 ·rename_i hk;rw[if_neg hk]at h;exact absurd rfl h
theorem rdec_bad {l:List UInt8} (h:(rdec l).2=0):rdec l=(0,0)/\okN (decodeL l).1 (decodeL l).2=false:=by
 have hw:=decodeL_width l;rw[rdec_eq]at h ⊢;split
 ·rename_i hk;rw[if_pos hk]at h;omega
 ·rename_i hk;exact⟨rfl,by simpa using hk⟩
theorem rdecN_le (n b0 b1 b2:Nat) (hn:1<=n):(rdecN n b0 b1 b2).2<=n/\(rdecN n b0 b1 b2).2<=3/\(rdecN n b0 b1 b2).1<=65535:=by
 unfold rdecN
 repeat' split
 all_goals (simp only;omega)
theorem rdec_le {l:List UInt8} (h:l≠[]):(rdec l).2<=l.length:=by
 have:0<l.length:=Dz.2 h;exact (rdecN_le _ _ _ _ oQ).1
theorem rdec_rune (l:List UInt8):(rdec l).1<=65535:=by
 unfold rdec rdecN
 repeat' split
 all_goals (simp only;omega)
theorem rdec_width3 (l:List UInt8):(rdec l).2<=3:=by
 unfold rdec rdecN
 repeat' split
 all_goals (simp only;omega)
def wid (l:List UInt8):Nat:=max (rdec l).2 1
theorem wid_pos (l:List UInt8):1<=wid l:=by unfold wid;omega
theorem wid_le {l:List UInt8} (h:l≠[]):wid l<=l.length:=by
 have:=rdec_le h;have:0<l.length:=Dz.2 h;unfold wid;omega
variable {σ : Type}
def foldR (f:σ->List UInt8->Nat->σ):Nat->σ->List UInt8->σ
 | 0,st,_=>st
 | n+1,st,l=>if l=[] then st else foldR f n (f st (l.take (wid l)) (rdec l).1) (l.drop (wid l))
def foldT (f:σ->List UInt8->Nat->σ) (st:σ) (l:List UInt8):σ:=foldR f l.length st l
theorem foldR_nil (f:σ->List UInt8->Nat->σ) (n:Nat) (st:σ):foldR f n st []=st:=by cases n <;> simp[foldR]
theorem foldR_fuel (f:σ->List UInt8->Nat->σ):∀ (n m:Nat) (st:σ) (l:List UInt8),l.length<=n->l.length<=m->foldR f n st l=foldR f m st l
 | 0,m,st,l,hn,_=>by
  have:l=[]:=Ar oQ;subst this;rw[foldR_nil,foldR_nil]
 | n+1,0,st,l,_,hm=>by
  have:l=[]:=Ar oQ;subst this;rw[foldR_nil,foldR_nil]
 | n+1,m+1,st,l,hn,hm=>by
  unfold foldR;by_cases hne:l=[]
  ·simp[hne]
  ·have hw:=wid_pos l;rw[if_neg hne,if_neg hne,foldR_fuel f n m _ _ aX aX]
theorem foldT_nil (f:σ->List UInt8->Nat->σ) (st:σ):foldT f st []=st:=foldR_nil f _ st
theorem foldT_step (f:σ->List UInt8->Nat->σ) (st:σ) {l:List UInt8} (hne:l≠[]):foldT f st l=foldT f (f st (l.take (wid l)) (rdec l).1) (l.drop (wid l)):=by
 have hl:=zdr;have hw:=wid_pos l;unfold foldT;obtain⟨n,hn⟩:=zlo;rw[hn];show (if l=[] then st else _)=_;rw[if_neg hne,foldR_fuel f n _ _ _ aX (Ad _)]
def vR:Nat->List UInt8->Bool
 | 0,_=>true
 | n+1,l=>if l=[] then true else if (rdec l).2=0 then false else vR n (l.drop (rdec l).2)
def valid (l:List UInt8):Bool:=vR l.length l
theorem vR_nil (n:Nat):vR n []=true:=by cases n <;> simp[vR]
theorem vR_fuel:∀ (n m:Nat) (l:List UInt8),l.length<=n->l.length<=m->vR n l=vR m l
 | 0,m,l,hn,_=>by
  have:l=[]:=Ar oQ;subst this;rw[vR_nil,vR_nil]
 | n+1,0,l,_,hm=>by
  have:l=[]:=Ar oQ;subst this;rw[vR_nil,vR_nil]
 | n+1,m+1,l,hn,hm=>by
  unfold vR;by_cases hne:l=[]
  ·simp[hne]
  ·by_cases hz:(rdec l).2=0
   ·simp[hz]
   ·rw[if_neg hne,if_neg hne,if_neg hz,if_neg hz,vR_fuel n m _ aX aX]
theorem valid_step {l:List UInt8} (hne:l≠[]):valid l=if (rdec l).2=0 then false else valid (l.drop (rdec l).2):=by
 have hl:=zdr;unfold valid;obtain⟨n,hn⟩:=zlo;rw[hn];show (if l=[] then true else _)=_;rw[if_neg hne];by_cases hz:(rdec l).2=0
 ·rw[if_pos hz,if_pos hz]
 ·rw[if_neg hz,if_neg hz,vR_fuel n _ _ aX (Ad _)]
theorem valid_head {l:List UInt8} (hne:l≠[]) (hv:valid l=true):(rdec l).2≠0/\decodeL l=rdec l/\wid l=(rdec l).2/\valid (l.drop (wid l))=true/\okN (rdec l).1 (rdec l).2=true:=by
 rw[valid_step hne]at hv;by_cases hz:(rdec l).2=0
 ·rw[if_pos hz]at hv;cases hv
 ·rw[if_neg hz]at hv;have hw:wid l=(rdec l).2:=by unfold wid;omega
  have hg:=rdec_good hz;exact⟨hz,hg.1,hw,by rw[hw];exact hv,by rw[<- hg.1];exact hg.2⟩
def rangeOk:Nat->List UInt8->Bool
 | 0,_=>true
 | n+1,l=>if l=[] then true else if (decodeL l).1<32\/(127<=(decodeL l).1/\(decodeL l).1<=159)\/65535<(decodeL l).1 then false else rangeOk n (l.drop (decodeL l).2)
theorem rangeOk_nil (n:Nat):rangeOk n []=true:=by cases n <;> simp[rangeOk]
theorem rangeOk_fuel:∀ (n m:Nat) (l:List UInt8),l.length<=n->l.length<=m->rangeOk n l=rangeOk m l
 | 0,m,l,hn,_=>by
  have:l=[]:=Ar oQ;subst this;rw[rangeOk_nil,rangeOk_nil]
 | n+1,0,l,_,hm=>by
  have:l=[]:=Ar oQ;subst this;rw[rangeOk_nil,rangeOk_nil]
 | n+1,m+1,l,hn,hm=>by
  unfold rangeOk;by_cases hne:l=[]
  ·simp[hne]
  ·have hw:=decodeL_width l;rw[if_neg hne,if_neg hne,rangeOk_fuel n m _ aX aX]
theorem rangeOk_step {l:List UInt8} (hne:l≠[]):rangeOk l.length l=if (decodeL l).1<32\/(127<=(decodeL l).1/\(decodeL l).1<=159)\/65535<(decodeL l).1 then false else rangeOk (l.drop (decodeL l).2).length (l.drop (decodeL l).2):=by
 have hl:=zdr;have hw:=decodeL_width l;obtain⟨n,hn⟩:=zlo
 conv=>lhs;rw[hn]
 show (if l=[] then true else _)=_;rw[if_neg hne,rangeOk_fuel n _ _ aX (Ad _)]
theorem valid_two:∀ (n:Nat) (l:List UInt8),l.length<=n->(validD l&&rangeOk l.length l)=valid l
 | 0,l,h=>by
  have:l=[]:=Ar oQ;subst this;rfl
 | n+1,l,h=>by
  by_cases hne:l=[]
  ·subst hne;rfl
  ·have hw:=decodeL_width l;have hl:=zdr;rw[validD_step l hne,rangeOk_step hne,valid_step hne];by_cases hz:(rdec l).2=0
   ·have hb:=okN_false.1 (rdec_bad hz).2;rw[if_pos hz];by_cases hi:(decodeL l).1=65533/\(decodeL l).2=1
    ·rw[if_pos hi];rfl
    ·rw[if_neg hi,if_pos oQ];simp
   ·have hg:=rdec_good hz;have hk:=okN_true.1 hg.2;rw[if_neg hz,if_neg hk.1,if_neg oQ,<- hg.1];exact valid_two n _ aX
def blank (c:Nat):Bool:=c == 32||c == 160
def cleanStep (st:List UInt8 × Bool) (p:List UInt8) (c:Nat):List UInt8 × Bool :=
 if blank c=true then (st.1,true) else ((if st.2=true/\st.1≠[] then st.1++[32] else st.1)++p,false)
def clean (l:List UInt8):List UInt8:=(foldT cleanStep ([],false) l).1
def sofar (s:ByteArray) (acc:List (Nat × Nat)) (st:Option Nat) (pos:Nat):List UInt8 :=
 join ((match st with | some a=>acc++[(a,pos)] | none=>acc).map fun x:Nat × Nat=>(s.extract x.1 x.2).data.toList) [32]
theorem join_snoc (xs:List (List UInt8)) (y sep:List UInt8) (h:xs≠[]):join (xs++[y]) sep=join xs sep++sep++y:=by
 cases xs with
 | nil=>exact absurd rfl h
 | cons x r =>
  rw[BU,join_cons,join_cons];simp[joinTail]
theorem join_more (xs:List (List UInt8)) (y p sep:List UInt8):join (xs++[y++p]) sep=join (xs++[y]) sep++p:=by
 cases xs with
 | nil=>simp[join_one]
 | cons x r=>rw[join_snoc _ _ _ oZ,join_snoc _ _ _ oZ];simp[AW]
theorem extract_more (s:ByteArray) (a pos k:Nat) (h:a<=pos):(s.extract a (pos+k)).data.toList=(s.extract a pos).data.toList++(s.data.toList.drop pos).take k:=by
 rw[extract_data,extract_data];have e:(s.data.toList.drop a).take (pos+k - a)=(s.data.toList.drop a).take ((pos - a)+k):=by congr 1;omega
 rw[e,List.take_add,BQ,show a+(pos - a)=pos by omega]
theorem extract_none (s:ByteArray) (a:Nat):(s.extract a a).data.toList=[]:=by rw[extract_data];simp
theorem extract_ne (s:ByteArray) (a b:Nat) (h:a<b) (h2:b<=s.size):(s.extract a b).data.toList≠[]:=by
 rw[extract_data];intro h0;have:=congrArg Dl h0;rw[Az,Ay,<- size_eq]at this;simp at this;omega
theorem join_ne (x:List UInt8) (r:List (List UInt8)) (sep:List UInt8) (h:x≠[]):join (x::r) sep≠[]:=by
 rw[join_cons];simp[h]
theorem yuy (h:P:=by
 intro h0;have:=congrArg Dl h0;rw[Ay,<- size_eq]at this;simp at this;omega):P:=h
theorem clean_go (s:ByteArray):∀ (f pos:Nat) (st:Option Nat) (acc:List (Nat × Nat)) (out:List UInt8) (gap:Bool),
  pos<=s.size->s.size<=pos+f->valid (s.data.toList.drop pos)=true->out=sofar s acc st pos ->
  (st=A0->gap=true\/out=[])->(∀ a,st=A3 a->gap=false/\a<pos)->(∀ x∈acc,x.1<x.2/\x.2<=s.size) ->
  sofar s (closeSpans s (spansFromP blank s f pos st acc)) A0 s.size=(foldT cleanStep (out,gap) (s.data.toList.drop pos)).1
 | f,pos,st,acc,out,gap,hp,hf,hv,ho,hn,hs,ha=>by
  by_cases hlt:pos<s.size
  ·obtain⟨g,rfl⟩:∃ g,f=g+1:=⟨f - 1,oQ⟩
   have hne:s.data.toList.drop pos≠[]:=by
    exact yuy
   obtain⟨hz,hd,hw,hv2,_⟩:=valid_head hne hv;have hdec:=zjb
   have hle:wid (s.data.toList.drop pos)<=s.size - pos:=by
    have:=wid_le hne;rw[Ay,<- size_eq]at this;omega
   have hwp:=wid_pos (s.data.toList.drop pos);rw[foldT_step cleanStep _ hne];simp only[spansFromP,if_pos hlt,hdec];rw[<- hw];rw[BQ]at hv2 ⊢;generalize hk:wid (s.data.toList.drop pos)=k at *;generalize hc:(rdec (s.data.toList.drop pos)).1=c at *;cases hb:blank c with
   | true =>
    simp only[if_true];have e:cleanStep (out,gap) ((s.data.toList.drop pos).take k) c=(out,true):=by simp[cleanStep,hb]
    rw[e];cases st with
    | none=>exact clean_go s g (pos+k) A0 acc out true oQ oQ hv2 ho (fun _=>.inl rfl) eD ha
    | some a =>
     have:=hs a rfl
     exact clean_go s g (pos+k) A0 (acc++[(a,pos)]) out true oQ oQ hv2 ho (fun _=>.inl rfl) eD
      (fun x hx=>by
       rcases AQ.1 hx with h | h
       ·exact ha x h
       ·simp at h;subst h;exact⟨by simp;omega,by simp;omega⟩)
   | false =>
    simp only[Ca,if_false];cases st with
    | some a =>
     have h1:=hs a rfl;have e:cleanStep (out,gap) ((s.data.toList.drop pos).take k) c=(out++(s.data.toList.drop pos).take k,false):=by simp[cleanStep,hb,h1.1]
     rw[e];refine clean_go s g (pos+k) (A3 a) acc _ false oQ oQ hv2 ?_ qJ (fun b h=>by cases h;exact⟨rfl,oQ⟩) ha;rw[ho];unfold sofar;simp only[AY,BX,Do];rw[extract_more s a pos k oQ,join_more]
    | none =>
     have e:cleanStep (out,gap) ((s.data.toList.drop pos).take k) c=((if gap=true/\out≠[] then out++[32] else out)++(s.data.toList.drop pos).take k,false):=by simp[cleanStep,hb]
     rw[e];refine clean_go s g (pos+k) (A3 pos) acc _ false oQ oQ hv2 ?_ qJ (fun b h=>by cases h;exact⟨rfl,oQ⟩) ha;unfold sofar;simp only[AY,BX,Do]
     have ep:(s.extract pos (pos+k)).data.toList=(s.data.toList.drop pos).take k:=by
      rw[extract_more s pos pos k (Ad _),extract_none];rfl
     rw[ep];cases hacc:acc with
     | nil =>
      have:out=[]:=by rw[ho,hacc];rfl
      rw[this];simp[join_one]
     | cons x r =>
      have hx:=ha x (by rw[hacc];simp)
      have hon:out≠[]:=by
       rw[ho,hacc];exact join_ne _ _ _ (extract_ne s _ _ hx.1 hx.2)
      have hg:gap=true:=by
       rcases hn rfl with h | h
       ·exact h
       ·exact absurd h hon
      rw[if_pos ⟨hg,hon⟩,join_snoc _ _ _ oZ,ho,hacc];rfl
  ·have hps:pos=s.size:=oQ;rw[spansFromP_end blank s f _ _ _ hlt];have hnil:=ziy;rw[hnil,foldT_nil,ho];cases st with
   | none=>simp[closeSpans,sofar]
   | some a=>simp[closeSpans,sofar,hps]
 termination_by f=>f
theorem clean_eq (s:ByteArray) (hv:valid s.data.toList=true):join ((goFieldsP blank s).map (·.data.toList)) [32]=clean s.data.toList:=by
 have h:=clean_go s s.size 0 A0 [] [] false (Nat.zero_le _) oQ (by simpa using hv) rfl (fun _=>.inr rfl) eD (fun x hx=>by cases hx);rw[AU]at h;unfold clean;rw[<- h];unfold sofar goFieldsP spansOfP;rw[DF];rfl
end Tx
namespace Nm
open Go.Lib
def num (l:List UInt8):Option Nat :=
 if l.length<1\/9<l.length\/(l.head?=A3 48/\1<l.length) then A0 else decFrom 0 l
theorem decFrom_append:∀ (a b:List UInt8) (acc:Nat),decFrom acc (a++b)=(decFrom acc a).bind fun x=>decFrom x b
 | [],b,acc=>rfl
 | c::a,b,acc=>by
  simp only[BU,decFrom];cases digitVal c with
  | none=>rfl
  | some d=>exact decFrom_append a b _
theorem digitVal_some {c:UInt8}{d:Nat} (h:digitVal c=A3 d):d<10/\c.toNat=48+d:=by
 unfold digitVal at h;split at h
 ·injection h with h;omega
 ·cases h
theorem digitVal_of {d:Nat} (h:d<10):digitVal (Dm (48+d))=A3 d:=by
 have e:(Dm (48+d)).toNat=48+d:=by rw[Ke];omega
 unfold digitVal;rw[e,if_pos oQ];congr 1;omega
theorem digit_eq {c:UInt8}{d:Nat} (h:digitVal c=A3 d):c=Dm (48+d):=by
 obtain⟨h1,h2⟩:=digitVal_some h;apply UInt8.toNat.inj;rw[h2,Ke];omega
theorem decFrom_lt:∀ (l:List UInt8) (acc n:Nat),decFrom acc l=A3 n->n<(acc+1)*10 ^ l.length
 | [],acc,n,h=>by
  simp only[decFrom,KH]at h;simp;omega
 | c::r,acc,n,h=>by
  simp only[decFrom]at h;cases hd:digitVal c with
  | none=>simp[hd]at h
  | some d =>
   rw[hd]at h;have h1:=decFrom_lt r _ n h;have h2:=(digitVal_some hd).1;have h3:(acc*10+d+1)*10 ^ r.length<=(acc+1)*10*10 ^ r.length:=Nat.mul_le_mul_right _ oQ;rw[AH,Nat.pow_succ,Nat.mul_comm (10 ^ r.length) 10,<- Nat.mul_assoc];omega
theorem decFrom_ge:∀ (l:List UInt8) (acc n:Nat),decFrom acc l=A3 n->acc<=n
 | [],acc,n,h=>by
  simp only[decFrom,KH]at h;omega
 | c::r,acc,n,h=>by
  simp only[decFrom]at h;cases hd:digitVal c with
  | none=>simp[hd]at h
  | some d =>
   rw[hd]at h;have h1:=decFrom_ge r _ n h;omega
theorem num_lt {l:List UInt8}{n:Nat} (h:num l=A3 n):n<1000000000/\l.length<=9:=by
 unfold num at h;split at h
 ·cases h
 ·rename_i hc;have h1:=decFrom_lt l 0 n h;have h2:10 ^ l.length<=10 ^ 9:=Nat.pow_le_pow_right oQ oQ;exact⟨oQ,oQ⟩
theorem decFrom_digits:∀ (n:Nat),decFrom 0 (decDigits n)=A3 n:=by
 intro n
 induction n using Nat.strongRecOn with
 | _ n ih =>
  rw[decDigits];split
  ·rename_i h;simp only[decFrom,digitVal_of h];rw[Nat.zero_mul,Nat.zero_add]
  ·rename_i h;rw[decFrom_append,ih (n / 10) oQ];simp only[Fa,decFrom,digitVal_of (show n % 10<10 by omega)];congr 1;omega
theorem digits_ne (n:Nat):decDigits n≠[]:=by
 rw[decDigits];split <;> simp
theorem digits_head:∀ (n:Nat),1<=n->(decDigits n).head?≠A3 48:=by
 intro n
 induction n using Nat.strongRecOn with
 | _ n ih =>
  intro h1;rw[decDigits];split
  ·rename_i h;simp only[List.head?_cons];intro h0;injection h0 with h0;have:=congrArg UInt8.toNat h0;rw[Ke]at this;have e:(48:UInt8).toNat=48:=rfl;omega
  ·rename_i h;have hi:=ih (n / 10) oQ oQ;have hn:=digits_ne (n / 10);cases hd:decDigits (n / 10) with
   | nil=>exact absurd hd hn
   | cons a t =>
    rw[hd]at hi;simpa using hi
theorem num_digits (n:Nat) (h:(decDigits n).length<=9):num (decDigits n)=A3 n:=by
 unfold num;have h0:=Dz.2 (digits_ne n);rw[if_neg,decFrom_digits];rintro (h1 | h1 | h1)
 ·omega
 ·omega
 ·by_cases hn:1<=n
  ·exact digits_head n hn h1.1
  ·have:n=0:=oQ;subst this;have h2:=h1.2;rw[decDigits,dif_pos oQ]at h2;simp at h2
theorem digits_of:∀ (k:Nat) (l:List UInt8) (n:Nat),l.length=k->l≠[]->(l.head?=A3 48->l.length<=1)->decFrom 0 l=A3 n->decDigits n=l
 | 0,l,n,hk,hne,_,_=>absurd (Ar hk) hne
 | k+1,l,n,hk,hne,hz,h=>by
  obtain⟨r,b,rfl⟩:∃ r b,l=r++[b]:=⟨l.dropLast,l.getLast hne,(List.dropLast_concat_getLast hne).symm⟩;rw[decFrom_append]at h;cases hr:decFrom 0 r with
  | none=>rw[hr]at h;cases h
  | some m =>
   rw[hr]at h;simp only[Fa,decFrom]at h;cases hd:digitVal b with
   | none=>rw[hd]at h;cases h
   | some d =>
    rw[hd]at h;injection h with h;have hb:=digitVal_some hd;by_cases hrn:r=[]
    ·subst hrn;simp only[decFrom,KH]at hr;have hn:n=d:=oQ;rw[decDigits,dif_pos oQ,hn,digit_eq hd];rfl
    ·have hr48:r.head?=A3 48->False:=by
      intro h48
      have hh:(r++[b]).head?=A3 48:=by
       cases r with
       | nil=>exact absurd rfl hrn
       | cons a t=>simpa using h48
      have h5:=hz hh;rw[Ag]at h5;have h6:0<r.length:=Dz.2 hrn;simp only[AH,Bw]at h5;omega
     have hi:=digits_of k r m (by rw[Ag]at hk;simp at hk;omega) hrn (fun h48=>(hr48 h48).elim) hr
     have hm:1<=m:=by
      rcases D5 m 1 with h0 | h0
      ·have hm0:m=0:=oQ;subst hm0;exfalso;apply hr48;rw[<- hi,decDigits,dif_pos oQ];rfl
      ·exact h0
     rw[decDigits,dif_neg oQ,show n / 10=m by omega,show n % 10=d by omega,hi,digit_eq hd]
theorem digits_num {l:List UInt8}{n:Nat} (h:num l=A3 n):decDigits n=l:=by
 unfold num at h;split at h
 ·cases h
 ·rename_i hc;refine digits_of l.length l n rfl (fun h0=>?_) (fun h0=>?_) h
  ·subst h0;simp at hc
  ·rcases D5 1 l.length with h1 | h1
   ·exact absurd (.inr (.inr ⟨h0,h1⟩)) hc
   ·exact h1
theorem parse_of:∀ (l:List UInt8) (acc n:Nat),decFrom acc l=A3 n->n<1000000000->parseUint10 acc l=.ok n
 | [],acc,n,h,_=>by
  simp only[decFrom,KH]at h;rw[h];rfl
 | c::r,acc,n,h,hn=>by
  simp only[decFrom]at h;cases hd:digitVal c with
  | none=>simp[hd]at h
  | some d =>
   rw[hd]at h;have h1:=decFrom_ge r _ n h;have h2:=digitVal_some hd;simp only[parseUint10];rw[if_pos oQ,if_neg oQ,show c.toNat - 48=d by omega,if_neg oQ];exact parse_of r _ n h hn
theorem atoi_num {l:List UInt8}{n:Nat} (h:num l=A3 n):atoiAll l=.ok (n:Int):=by
 have hb:=num_lt h;unfold num at h;split at h
 ·cases h
 ·rename_i hc;cases l with
  | nil=>simp at hc
  | cons c r =>
   have hp:=parse_of (c::r) 0 n h hb.1
   have hcd:∃ d,digitVal c=A3 d:=by
    simp only[decFrom]at h;cases hd:digitVal c with
    | none=>simp[hd]at h
    | some d=>exact⟨d,rfl⟩
   obtain⟨d,hd⟩:=hcd;have hd2:=digitVal_some hd;unfold atoiAll;simp only;rw[if_neg oQ];unfold parseMag;rw[if_neg oZ,hp];simp only;rw[if_neg oQ,if_neg oQ,if_neg oQ]
theorem num_of_atoi {l:List UInt8}{v:Int} (hv:0<=v) (hl:l.length<=9) (h:itoa v=l):num l=A3 v.toNat:=by
 unfold itoa at h;rw[if_neg oQ]at h;rw[<- h];exact num_digits _ (by rw[h];exact hl)
theorem itoa_num {l:List UInt8}{n:Nat} (h:num l=A3 n):itoa (n:Int)=l:=by
 unfold itoa;rw[if_neg oQ,Int.toNat_natCast];exact digits_num h
end Nm
namespace Tx
theorem getD_at (s:ByteArray) (j:Nat) (h:j<s.size):s.data.toList.getD j 0=s[j]'h:=by
 have h':j<s.data.toList.length:=by rw[<- Go.Lib.size_eq];exact h
 rw[Bi,Ai h'];rfl
theorem rdec_at (s:ByteArray) (i:Nat):rdec (s.data.toList.drop i)=rdecN (s.size - i) (s.data.toList.getD i 0).toNat (s.data.toList.getD (i+1) 0).toNat (s.data.toList.getD (i+2) 0).toNat:=by
 unfold rdec;rw[Ay,Go.Lib.getD_dropU,Go.Lib.getD_dropU,Go.Lib.getD_dropU,BN,Go.Lib.size_eq]
theorem rdec_parts (s:ByteArray) (i:Nat) (hi:i<s.size):∃ a b c:Nat,rdec (s.data.toList.drop i)=rdecN (s.size - i) a b c/\a=(s[i]'hi).toNat/\(∀ h:i+1<s.size,b=(s[i+1]'h).toNat)/\(∀ h:i+2<s.size,c=(s[i+2]'h).toNat)/\a<256/\b<256/\c<256 :=
 ⟨_,_,_,rdec_at s i,by rw[getD_at s i hi],fun h=>by rw[getD_at s (i+1) h],fun h=>by rw[getD_at s (i+2) h],Fj _,Fj _,Fj _⟩
theorem ret2 {a b:Int}{r:Nat × Nat}{c d:Nat} (hr:r=(c,d)) (h1:a=(c:Int)) (h2:b=(d:Int)):Ending.returned (.tuple #[.int .i64 a,.int .i64 b])=Ending.returned (.tuple #[.int .i64 r.1,.int .i64 r.2]):=by rw[hr,h1,h2]
theorem below_drewN {B:Nat}{a w:World} (h:Below B a w) (q:Nat):Below B a (w.drewN q):=⟨h.os,h.tape,h.output,h.size,h.block⟩
theorem rdecN_1 {n a b c:Nat} (h:32<=a/\a<127):rdecN n a b c=(a,1):=by unfold rdecN;rw[if_pos h]
theorem rdecN_2 {n a b c:Nat} (h:194<=a/\a<224/\1<n/\128<=b/\b<192) (h2:160<=(a - 192)*64+b - 128):rdecN n a b c=((a - 192)*64+b - 128,2):=by unfold rdecN;rw[if_neg oQ,if_pos h,if_pos h2]
theorem rdecN_3 {n a b c:Nat} (h:194<=a/\a<224/\1<n/\128<=b/\b<192) (h2:¬ 160<=(a - 192)*64+b - 128):rdecN n a b c=(0,0):=by unfold rdecN;rw[if_neg oQ,if_pos h,if_neg h2]
theorem rdecN_4 {n a b c:Nat} (h:224<=a/\a<240/\2<n/\128<=b/\b<192/\128<=c/\c<192) (h2:2048<=(a - 224)*4096+(b - 128)*64+c - 128/\((a - 224)*4096+(b - 128)*64+c - 128<55296\/57343<(a - 224)*4096+(b - 128)*64+c - 128)):rdecN n a b c=((a - 224)*4096+(b - 128)*64+c - 128,3):=by unfold rdecN;rw[if_neg oQ,if_neg oQ,if_pos h,if_pos h2]
theorem rdecN_5 {n a b c:Nat} (h:224<=a/\a<240/\2<n/\128<=b/\b<192/\128<=c/\c<192) (h2:¬ (2048<=(a - 224)*4096+(b - 128)*64+c - 128/\((a - 224)*4096+(b - 128)*64+c - 128<55296\/57343<(a - 224)*4096+(b - 128)*64+c - 128))):rdecN n a b c=(0,0):=by unfold rdecN;rw[if_neg oQ,if_neg oQ,if_pos h,if_neg h2]
theorem rdecN_6 {n a b c:Nat} (h1:¬ (32<=a/\a<127)) (h2:¬ (194<=a/\a<224/\1<n/\128<=b/\b<192)) (h3:¬ (224<=a/\a<240/\2<n/\128<=b/\b<192/\128<=c/\c<192)):rdecN n a b c=(0,0):=by unfold rdecN;rw[if_neg h1,if_neg h2,if_neg h3]
end Tx
theorem r01_decode_c (s:ByteArray) (i:Nat) (w:World) (hi:i<s.size) (hs:s.size<=9223372036854775000) :
  Calls Tryz.prog 203 #[.string s,.int .i64 i] w fun e w'=>e=.returned (.tuple #[.int .i64 (Tx.rdec (s.data.toList.drop i)).1,.int .i64 (Tx.rdec (s.data.toList.drop i)).2])/\Below w.heap.size w w':=by
 have hb0:((s[i]'hi).toNat:Int)<256:=by have:=(s[i]'hi).toNat_lt;omega
 obtain⟨a,b,c,hr,h0,h1,h2,ha,hb,hc⟩:=Tx.rdec_parts s i hi;have HR:=J hr;clear hr;have H0:=J h0;clear h0;have H1:=J h1;clear h1;have H2:=J h2;clear h2;go_enter Tryz.func203,Tryz.ntmps203;go_wp2
 all_goals try
  go_quiet (fail);go_wp2
 all_goals
  go_ret2;refine⟨?_,by first | exact Below.refl _ _ | exact Tx.below_drewN (Below.refl _ _) _⟩;have h0:=H0.out;have h1:=H1.out;have h2:=H2.out
  try have g1:=h1 oQ
  try have g2:=h2 oQ
  clear h1 h2;rw[HR.out]
 all_goals first
  | exact Tx.ret2 (Tx.rdecN_1 oQ) oQ oQ
  | exact Tx.ret2 (Tx.rdecN_6 oQ oQ oQ) oQ oQ
  | exact Tx.ret2 (Tx.rdecN_2 oQ oQ) oQ oQ
  | exact Tx.ret2 (Tx.rdecN_3 oQ oQ) oQ oQ
  | exact Tx.ret2 (Tx.rdecN_4 oQ oQ) oQ oQ
  | exact Tx.ret2 (Tx.rdecN_5 oQ oQ) oQ oQ
namespace Sp
open Go.Lib
def cut (c:UInt8):List UInt8->Option (List UInt8 × List UInt8)
 | []=>A0
 | b::t=>if b=c then A3 ([],t) else match cut c t with
  | some (x,y)=>A3 (b::x,y)
  | none=>A0
theorem cut_len {c:UInt8}:∀ {l a b:List UInt8},cut c l=A3 (a,b)->l.length=a.length+1+b.length
 | [],a,b,h=>by simp[cut]at h
 | x::t,a,b,h=>by
  simp only[cut]at h;split at h
  ·simp at h;obtain⟨rfl,rfl⟩:=h;simp;omega
  ·cases ht:cut c t with
   | none=>rw[ht]at h;simp at h
   | some p =>
    obtain⟨x',y'⟩:=p;rw[ht]at h;simp at h;obtain⟨rfl,rfl⟩:=h;have:=cut_len ht;simp;omega
theorem cut_eq {c:UInt8}:∀ {l a b:List UInt8},cut c l=A3 (a,b)->l=a++c::b/\c ∉ a
 | [],a,b,h=>by simp[cut]at h
 | x::t,a,b,h=>by
  simp only[cut]at h;split at h
  ·rename_i hx;simp at h;obtain⟨rfl,rfl⟩:=h;simp[hx]
  ·rename_i hx;cases ht:cut c t with
   | none=>rw[ht]at h;simp at h
   | some p =>
    obtain⟨x',y'⟩:=p;rw[ht]at h;simp at h;obtain⟨rfl,rfl⟩:=h;obtain⟨h1,h2⟩:=cut_eq ht;refine⟨by rw[h1];rfl,?_⟩;simp only[AL,not_or];exact⟨fun e=>hx e.symm,h2⟩
theorem cut_none {c:UInt8}:∀ {l:List UInt8},cut c l=A0↔c ∉ l
 | []=>by simp[cut]
 | x::t=>by
  simp only[cut];split
  ·rename_i hx;simp[hx]
  ·rename_i hx;cases ht:cut c t with
   | none =>
    have:=(cut_none (l:=t)).1 ht;simp only[AL,not_or,true_iff];exact⟨fun e=>hx e.symm,this⟩
   | some p =>
    have:¬ c ∉ t:=fun hn=>by rw[(cut_none (l:=t)).2 hn]at ht;cases ht
    simp only[AL,not_or];constructor
    ·intro h;cases h
    ·intro h;exact absurd h.2 this
theorem cut_append {c:UInt8}{a b:List UInt8} (h:c ∉ a):cut c (a++c::b)=A3 (a,b):=by
 induction a with
 | nil=>simp[cut]
 | cons x t ih =>
  simp only[AL,not_or]at h;simp only[BU,cut];rw[if_neg (fun e=>h.1 e.symm),ih h.2]
theorem indexByte_cut (c:UInt8):∀ (l:List UInt8),(indexByte l c=-1/\cut c l=A0)\/∃ i:Nat,indexByte l c=i/\cut c l=A3 (l.take i,l.drop (i+1))
 | []=>.inl ⟨rfl,rfl⟩
 | b::t=>by
  simp only[indexByte,cut];by_cases hb:b=c
  ·subst hb;right;exact⟨0,oZ,oZ⟩
  ·have hb':(b == c)=false:=by simpa using hb
   rw[hb',if_neg hb];simp only[Ca,if_false];rcases indexByte_cut c t with⟨h1,h2⟩ | ⟨i,h1,h2⟩
   ·left;rw[h1,h2];simp
   ·right;refine⟨i+1,?_,?_⟩
    ·rw[h1];have:¬ ((i:Int) == -1)=true:=oZ;rw[if_neg this];rfl
    ·rw[h2];simp
end Sp
namespace Rc
open Go.Lib
abbrev By:=List UInt8
structure Fl where
 tag:ByteArray
 ind:ByteArray
 subs:List (UInt8 × ByteArray)
 auth:Int
def hasCode (codes:By) (c:UInt8):Bool:=codes.isEmpty||codes.contains c
def allV (l:List (UInt8 × ByteArray)) (codes:By):List ByteArray:=(l.filter fun x=>hasCode codes x.1).map (·.2)
def bys (l:List ByteArray):List By:=l.map (·.data.toList)
def plain (l:List (UInt8 × ByteArray)) (codes:By):By:=join (bys (allV l codes)) [32]
def get (l:List (UInt8 × ByteArray)) (c:UInt8):Option ByteArray:=(l.find? fun x=>x.1 == c).map (·.2)
def tagIs (t:By) (f:Fl):Bool:=f.tag.data.toList == t
def first (fs:List Fl) (t:By):Option Fl:=fs.find? (tagIs t)
def title (fs:List Fl):By:=match first fs [50,52,53] with
 | none=>[]
 | some f=>Tx.clean (plain f.subs [97,98])
def authorT (fs:List Fl) (t:By):Option ByteArray:=(first fs t).bind fun f=>get f.subs 97
def author (fs:List Fl):By :=
 match authorT fs [49,48,48] with
 | some v=>v.data.toList
 | none=>match authorT fs [49,49,48] with
  | some v=>v.data.toList
  | none=>match authorT fs [55,48,48] with
   | some v=>v.data.toList
   | none=>[]
def yr:Nat->Nat->By->Nat
 | n,d,[]=>if d=4/\1000<=n/\n<=2199 then n else 0
 | n,d,c::r=>if 48<=c.toNat/\c.toNat<=57 then yr (if d+1<=4 then n*10+(c.toNat - 48) else n) (d+1) r
  else if d=4/\1000<=n/\n<=2199 then n else yr 0 0 r
def yearIn (s:By):Nat:=yr 0 0 s
def firstNZ:List Nat->Nat
 | []=>0
 | n::r=>if n=0 then firstNZ r else n
def pubTag (f:Fl):Bool:=tagIs [50,54,48] f||tagIs [50,54,52] f
def yearF (l:List ByteArray):Nat:=firstNZ (l.map fun x=>yearIn x.data.toList)
def year (fs:List Fl):Nat:=firstNZ (fs.map fun f=>if pubTag f then yearF (allV f.subs [99]) else 0)
def Gd (f:Fl):Prop:=f.subs.length<=1000/\∀ x∈f.subs,x.2.size<=100000/\Tx.valid x.2.data.toList=true
theorem lens_le:∀ (l:List By) (M:Nat),(∀ x∈l,x.length<=M)->lens l<=l.length*M
 | [],M,_=>by simp[lens]
 | x::r,M,h=>by
  have h1:=h x oZ;have h2:=lens_le r M (fun y hy=>h y uW);have e:lens (x::r)=x.length+lens r:=by simp[lens]
  rw[e,AH,Gc];omega
theorem join_le (l:List By) (sep:By) (M:Nat) (h:∀ x∈l,x.length<=M):(join l sep).length<=l.length*(M+sep.length):=by
 cases l with
 | nil=>simp[join_nil]
 | cons x r =>
  have h1:=h x oZ;have h2:=lens_le r M (fun y hy=>h y uW);rw[join_cons,Ag,joinTail_length,AH,Gc,Nat.mul_add,Nat.mul_comm sep.length];omega
theorem allV_mem {l:List (UInt8 × ByteArray)}{c:By}{x:ByteArray} (h:x∈allV l c):∃ y∈l,y.2=x:=by
 unfold allV at h;rw[BG]at h;obtain⟨y,hy,rfl⟩:=h;exact⟨y,(Be.1 hy).1,rfl⟩
theorem allV_len (l:List (UInt8 × ByteArray)) (c:By):(allV l c).length<=l.length:=by
 unfold allV;rw[Ax];exact List.length_filter_le _ _
theorem Gd.all {f:Fl} (h:Gd f) (c:By):(allV f.subs c).length<=1000/\∀ x∈bys (allV f.subs c),x.length<=100000/\Tx.valid x=true:=by
 refine⟨Au (allV_len _ _) h.1,fun x hx=>?_⟩;unfold bys at hx;rw[BG]at hx;obtain⟨y,hy,rfl⟩:=hx;obtain⟨z,hz,rfl⟩:=allV_mem hy;have:=h.2 z hz;rw[<- size_eq];exact this
theorem Gd.join_le {f:Fl} (h:Gd f) (c sep:By) (hs:sep.length<=10):(join (bys (allV f.subs c)) sep).length<=200000000:=by
 have h1:=h.all c;have h2:=Rc.join_le (bys (allV f.subs c)) sep 100000 (fun x hx=>(h1.2 x hx).1);have h3:(bys (allV f.subs c)).length<=1000:=by unfold bys;rw[Ax];exact h1.1
 have h4:(bys (allV f.subs c)).length*(100000+sep.length)<=1000*(100000+10):=Nat.mul_le_mul h3 oQ;omega
theorem Gd.plain_le {f:Fl} (h:Gd f) (c:By):(plain f.subs c).length<=200000000:=h.join_le c [32] oZ
theorem getD_app {a:By} (b:By) {j:Nat} (h:j<a.length):(a++b).getD j 0=a.getD j 0:=by
 rw[Bi,Bi,List.getElem?_append_left h]
theorem decodeN_more (n m b0 b1 b2:Nat) (c1 c2:Nat) (hn:n<=m) (h1:1<n->c1=b1) (h2:2<n->c2=b2) (hk:(Tx.rdecN n b0 b1 b2).2≠0):Tx.rdecN m b0 c1 c2=Tx.rdecN n b0 b1 b2:=by
 unfold Tx.rdecN at hk ⊢;by_cases ha:32<=b0/\b0<127
 ·simp only[if_pos ha]
 ·simp only[if_neg ha]at hk ⊢;by_cases hb:194<=b0/\b0<224/\1<n/\128<=b1/\b1<192
  ·have e:=h1 hb.2.2.1;subst e;rw[if_pos hb,if_pos ⟨hb.1,hb.2.1,oQ,hb.2.2.2.1,hb.2.2.2.2⟩]
  ·rw[if_neg hb]at hk ⊢;by_cases hc:224<=b0/\b0<240/\2<n/\128<=b1/\b1<192/\128<=b2/\b2<192
   ·have e:=h1 oQ;subst e;have e2:=h2 hc.2.2.1;subst e2;rw[if_pos hc,if_neg oQ,if_pos ⟨hc.1,hc.2.1,oQ,hc.2.2.2⟩]
   ·rw[if_neg hc]at hk;exact absurd rfl hk
theorem rdec_append {a:By} (b:By) (hne:a≠[]) (h:(Tx.rdec a).2≠0):Tx.rdec (a++b)=Tx.rdec a:=by
 have hl:0<a.length:=Dz.2 hne;unfold Tx.rdec at h ⊢;have e0:(a++b).getD 0 0=a.getD 0 0:=by rw[getD_app b hl]
 rw[e0];exact decodeN_more _ _ _ _ _ _ _ (by rw[Ag];omega) (fun h1=>by rw[getD_app b h1]) (fun h1=>by rw[getD_app b h1]) h
theorem valid_append:∀ (n:Nat) (a b:By),a.length<=n->Tx.valid a=true->Tx.valid (a++b)=Tx.valid b
 | 0,a,b,hn,_=>by
  have:a=[]:=Ar oQ;subst this;rfl
 | n+1,a,b,hn,hv=>by
  by_cases hne:a=[]
  ·subst hne;rfl
  ·obtain⟨hz,_,hw,hv2,_⟩:=Tx.valid_head hne hv;have hle:=Tx.rdec_le hne;rw[Tx.valid_step (by simp[hne]),rdec_append b hne hz,if_neg hz,Gn hle];rw[hw]at hv2;exact valid_append n _ b aX hv2
theorem valid_app {a b:By} (ha:Tx.valid a=true) (hb:Tx.valid b=true):Tx.valid (a++b)=true:=by rw[valid_append a.length a b (Ad _) ha,hb]
theorem valid_joinTail:∀ (l:List By) (sep:By),(∀ x∈l,Tx.valid x=true)->Tx.valid sep=true->Tx.valid (joinTail sep l)=true
 | [],sep,_,_=>rfl
 | x::r,sep,h,hs=>by
  have e:joinTail sep (x::r)=(sep++x)++joinTail sep r:=by simp[joinTail]
  rw[e];exact valid_app (valid_app hs (h x oZ)) (valid_joinTail r sep (fun y hy=>h y uW) hs)
theorem valid_join (l:List By) (sep:By) (h:∀ x∈l,Tx.valid x=true) (hs:Tx.valid sep=true):Tx.valid (join l sep)=true:=by
 cases l with
 | nil=>rfl
 | cons x r=>rw[join_cons];exact valid_app (h x oZ) (valid_joinTail r sep (fun y hy=>h y uW) hs)
theorem Gd.plain_valid {f:Fl} (h:Gd f) (c:By):Tx.valid (plain f.subs c)=true:=valid_join _ _ (fun x hx=>((h.all c).2 x hx).2) oX
theorem first_mem {fs:List Fl}{t:By}{f:Fl} (h:first fs t=A3 f):f∈fs:=JJ h
theorem get_mem {l:List (UInt8 × ByteArray)}{c:UInt8}{v:ByteArray} (h:get l c=A3 v):∃ x∈l,x.2=v:=by
 unfold get at h;rw[Option.map_eq_some_iff]at h;obtain⟨x,hx,rfl⟩:=h;exact⟨x,JJ hx,rfl⟩
theorem yr_le:∀ (l:By) (n d:Nat),yr n d l<=2199
 | [],n,d=>by unfold yr;split <;> omega
 | c::r,n,d=>by
  unfold yr
  repeat' split
  all_goals first | exact yr_le r _ _ | omega
abbrev isD (c:UInt8):Prop:=48<=c.toNat/\c.toNat<=57
theorem yr_digit (n d:Nat) (c:UInt8) (r:By) (h:isD c):yr n d (c::r)=yr (if d+1<=4 then n*10+(c.toNat - 48) else n) (d+1) r:=by
 conv=>lhs;unfold yr
 rw[if_pos h]
theorem yr_other (n d:Nat) (c:UInt8) (r:By) (h:¬ isD c):yr n d (c::r)=if d=4/\1000<=n/\n<=2199 then n else yr 0 0 r:=by
 conv=>lhs;unfold yr
 rw[if_neg h]
theorem yr_nil (n d:Nat):yr n d []=if d=4/\1000<=n/\n<=2199 then n else 0:=by unfold yr;rfl
theorem yr_run:∀ (p r:By) (n d:Nat),(∀ c∈p,isD c)->∃ m,yr n d (p++r)=yr m (d+p.length) r
 | [],r,n,d,_=>⟨n,rfl⟩
 | c::p,r,n,d,h=>by
  obtain⟨m,hm⟩:=yr_run p r (if d+1<=4 then n*10+(c.toNat - 48) else n) (d+1) (fun x hx=>h x (by simp[hx]));refine⟨m,?_⟩;rw[BU,yr_digit _ _ _ _ (h c oZ),hm,AH,show d+1+p.length=d+(p.length+1) by omega]
theorem yr_end (r:By) (n d:Nat) (h:∀ c t,r=c::t->¬ isD c):yr n d r=if d=4/\1000<=n/\n<=2199 then n else yr 0 0 (r.drop 1):=by
 cases r with
 | nil=>rw[yr_nil];split <;> first | rfl | (rw[List.drop_nil,yr_nil,if_neg oQ])
 | cons c t=>rw[yr_other _ _ _ _ (h c t rfl)];rfl
theorem drop_cons (L:By) (i:Nat) (h:i<L.length):L.drop i=L.getD i 0::L.drop (i+1):=by
 rw[List.drop_eq_getElem_cons h,Bi,Ai h];rfl
theorem year_round (L:By) (i k:Nat) (hik:i<=k) (hk:k<=L.length) (hd:∀ j,i<=j->j<k->isD (L.getD j 0)) (he:k<L.length->¬ isD (L.getD k 0)) (v:Nat)
  (hv:k - i=4->v=((L.getD i 0).toNat - 48)*1000+((L.getD (i+1) 0).toNat - 48)*100+((L.getD (i+2) 0).toNat - 48)*10+((L.getD (i+3) 0).toNat - 48)) :
  yr 0 0 (L.drop i)=if k - i=4/\1000<=v/\v<=2199 then v else yr 0 0 (L.drop (k+1)):=by
 have hend:∀ c t,L.drop k=c::t->¬ isD c:=by
  intro c t h
  have hlt:k<L.length:=by
   rcases D5 k L.length with h1 | h1
   ·exact h1
   ·rw[AS h1]at h;cases h
  rw[drop_cons L k hlt]at h;injection h with h1 _;rw[<- h1];exact he hlt
 by_cases h4:k - i=4
 ·have e:L.drop i=L.getD i 0::L.getD (i+1) 0::L.getD (i+2) 0::L.getD (i+3) 0::L.drop k:=by
   rw[drop_cons L i oQ,drop_cons L (i+1) oQ,drop_cons L (i+2) oQ,drop_cons L (i+3) oQ,show i+3+1=k by omega]
  have hv':=hv h4;rw[e,yr_digit _ _ _ _ (hd i oQ oQ),yr_digit _ _ _ _ (hd (i+1) oQ oQ),yr_digit _ _ _ _ (hd (i+2) oQ oQ),yr_digit _ _ _ _ (hd (i+3) oQ oQ),yr_end _ _ _ hend,BQ];simp only[Nat.reduceAdd,Nat.reduceLeDiff,if_true];have e2:(((0*10+((L.getD i 0).toNat - 48))*10+((L.getD (i+1) 0).toNat - 48))*10+((L.getD (i+2) 0).toNat - 48))*10+((L.getD (i+3) 0).toNat - 48)=v:=by rw[hv'];omega
  rw[e2];simp[h4]
 ·have e:L.drop i=(L.drop i).take (k - i)++L.drop k:=by
   have:=(BY (k - i) (L.drop i)).symm;rw[BQ,show i+(k - i)=k by omega]at this;exact this
  obtain⟨m,hm⟩:=yr_run ((L.drop i).take (k - i)) (L.drop k) 0 0 (by
   intro c hc;obtain⟨j,hj,rfl⟩:=M4.1 hc;rw[Az,Ay]at hj;have h1:=hd (i+j) oQ oQ;rw[List.getElem_take,List.getElem_drop];rw[Bi,Ai oQ]at h1;exact h1)
  rw[e,hm,Az,Ay,yr_end _ _ _ hend,BQ,if_neg oQ,if_neg oQ]
end Rc
namespace Tx
open Go.Lib Rc
def wStep (p:Nat->Bool) (st:List By × By) (q:By) (c:Nat):List By × By :=
 if p c=true then (if st.2=[] then st else (st.1++[st.2],[])) else (st.1,st.2++q)
def wEnd (st:List By × By):List By:=if st.2=[] then st.1 else st.1++[st.2]
def fieldsT (p:Nat->Bool) (l:By):List By:=wEnd (foldT (wStep p) ([],[]) l)
def spans (s:ByteArray) (acc:List (Nat × Nat)):List By:=acc.map fun x=>(s.extract x.1 x.2).data.toList
def openW (s:ByteArray) (st:Option Nat) (pos:Nat):By:=match st with
 | some a=>(s.extract a pos).data.toList
 | none=>[]
theorem words_go (p:Nat->Bool) (s:ByteArray):∀ (f pos:Nat) (st:Option Nat) (acc:List (Nat × Nat)),
  pos<=s.size->s.size<=pos+f->valid (s.data.toList.drop pos)=true->(∀ a,st=A3 a->a<pos) ->
  spans s (closeSpans s (spansFromP p s f pos st acc))=wEnd (foldT (wStep p) (spans s acc,openW s st pos) (s.data.toList.drop pos))
 | f,pos,st,acc,hp,hf,hv,hs=>by
  by_cases hlt:pos<s.size
  ·obtain⟨g,rfl⟩:∃ g,f=g+1:=⟨f - 1,oQ⟩
   have hne:s.data.toList.drop pos≠[]:=by
    exact yuy
   obtain⟨hz,hd,hw,hv2,_⟩:=valid_head hne hv;have hdec:=zjb
   have hle:wid (s.data.toList.drop pos)<=s.size - pos:=by
    have:=wid_le hne;rw[Ay,<- size_eq]at this;omega
   have hwp:=wid_pos (s.data.toList.drop pos);rw[foldT_step (wStep p) _ hne];simp only[spansFromP,if_pos hlt,hdec];rw[<- hw];rw[BQ]at hv2 ⊢;generalize hk:wid (s.data.toList.drop pos)=k at *;generalize hc:(rdec (s.data.toList.drop pos)).1=c at *;cases hb:p c with
   | true =>
    simp only[if_true];cases st with
    | none =>
     have e:wStep p (spans s acc,openW s A0 pos) ((s.data.toList.drop pos).take k) c=(spans s acc,openW s A0 (pos+k)):=by simp[wStep,hb,openW]
     rw[e];exact words_go p s g (pos+k) A0 acc oQ oQ hv2 eD
    | some a =>
     have h1:=hs a rfl
     have e:wStep p (spans s acc,openW s (A3 a) pos) ((s.data.toList.drop pos).take k) c=(spans s (acc++[(a,pos)]),openW s A0 (pos+k)):=by
      simp[wStep,hb,openW,spans];omega
     rw[e];exact words_go p s g (pos+k) A0 (acc++[(a,pos)]) oQ oQ hv2 eD
   | false =>
    simp only[Ca,if_false];cases st with
    | some a =>
     have h1:=hs a rfl
     have e:wStep p (spans s acc,openW s (A3 a) pos) ((s.data.toList.drop pos).take k) c=(spans s acc,openW s (A3 a) (pos+k)):=by
      simp only[wStep,hb,openW,Ca,if_false];rw[extract_more s a pos k oQ]
     rw[e];exact words_go p s g (pos+k) (A3 a) acc oQ oQ hv2 (fun b h=>by cases h;omega)
    | none =>
     have e:wStep p (spans s acc,openW s A0 pos) ((s.data.toList.drop pos).take k) c=(spans s acc,openW s (A3 pos) (pos+k)):=by
      simp only[wStep,hb,openW,Ca,if_false,C8];rw[extract_more s pos pos k (Ad _),extract_none];rfl
     rw[e];exact words_go p s g (pos+k) (A3 pos) acc oQ oQ hv2 (fun b h=>by cases h;omega)
  ·have hps:pos=s.size:=oQ;rw[spansFromP_end p s f _ _ _ hlt];have hnil:=ziy;rw[hnil,foldT_nil];cases st with
   | none=>simp[closeSpans,openW,wEnd]
   | some a =>
    have h1:=hs a rfl;simp[closeSpans,openW,wEnd,spans,hps];omega
 termination_by f=>f
theorem fieldsT_eq (p:Nat->Bool) (s:ByteArray) (hv:valid s.data.toList=true):(goFieldsP p s).map (·.data.toList)=fieldsT p s.data.toList:=by
 have h:=words_go p s s.size 0 A0 [] (Nat.zero_le _) oQ (by simpa using hv) eD;rw[AU]at h;unfold fieldsT;rw[show (([],[]):List By × By)=(spans s [],openW s A0 0) from rfl,<- h];unfold spans goFieldsP spansOfP;rw[DF];rfl
def foldC (c:Nat):By :=
 if 65<=c/\c<=90 then [Dm (c+32)]
 else if c<192\/255<c\/c=215\/c=247 then []
 else if c=223 then [115,115]
 else if c=255 then [121]
 else if (if 224<=c then c - 32 else c)<=197 then [97]
 else if (if 224<=c then c - 32 else c)=198 then [97,101]
 else if (if 224<=c then c - 32 else c)=199 then [99]
 else if (if 224<=c then c - 32 else c)<=203 then [101]
 else if (if 224<=c then c - 32 else c)<=207 then [105]
 else if (if 224<=c then c - 32 else c)=208 then [100]
 else if (if 224<=c then c - 32 else c)=209 then [110]
 else if (if 224<=c then c - 32 else c)<=216 then [111]
 else if (if 224<=c then c - 32 else c)<=220 then [117]
 else if (if 224<=c then c - 32 else c)=221 then [121]
 else [116,104]
def foldP (q:By) (c:Nat):By:=if foldC c=[] then q else foldC c
def foldStep (out:By) (q:By) (c:Nat):By:=out++foldP q c
def foldS (l:By):By:=foldT foldStep [] l
def letter (c:Nat):Bool:=decide (97<=c/\c<=122)||decide (48<=c/\c<=57)||decide (256<=c)
def sepW (c:Nat):Bool:=!letter c
def words (l:By):List By:=fieldsT sepW (foldS l)
theorem foldC_len0:∀ c,c<256->(foldC c).length<=2:=by decide +kernel
theorem foldC_low:∀ c,c<256->∀ b∈foldC c,97<=b.toNat/\b.toNat<=122:=by decide +kernel
theorem foldC_high {c:Nat} (h:256<=c):foldC c=[]:=by
 unfold foldC;rw[if_neg oQ,if_pos oQ]
theorem foldC_len (c:Nat):(foldC c).length<=2:=by
 rcases D5 c 256 with h | h
 ·exact foldC_len0 c h
 ·rw[foldC_high h];simp
theorem foldC_asc (c:Nat):∀ b∈foldC c,97<=b.toNat/\b.toNat<=122:=by
 rcases D5 c 256 with h | h
 ·exact foldC_low c h
 ·rw[foldC_high h];simp
theorem rdec_asc {b:UInt8} (r:By) (h:32<=b.toNat/\b.toNat<127):rdec (b::r)=(b.toNat,1):=by
 unfold rdec;exact by unfold rdecN;rw[List.getD_cons_zero,if_pos h]
theorem valid_asc:∀ (l:By),(∀ b∈l,32<=b.toNat/\b.toNat<127)->valid l=true
 | [],_=>rfl
 | b::r,h=>by
  have hb:=h b oZ;rw[valid_step oZ,rdec_asc r hb,if_neg (show ¬ (b.toNat,1).2=0 by simp)];exact valid_asc r (fun x hx=>h x (by simp[hx]))
theorem valid_foldC (c:Nat):valid (foldC c)=true:=valid_asc _ fun b hb=>by have:=foldC_asc c b hb;omega
theorem getD_take {l:By}{k j:Nat} (h:j<k):(l.take k).getD j 0=l.getD j 0:=by
 rw[Bi,Bi,List.getElem?_take,if_pos h]
theorem rdec_head {l:By} (hne:l≠[]) (h:(rdec l).2≠0):rdec (l.take (rdec l).2)=rdec l:=by
 have hl:=rdec_le hne;have h0:=zdr;generalize hk:(rdec l).2=k at *;have e0:(l.take k).getD 0 0=l.getD 0 0:=getD_take oQ;have el:(l.take k).length=k:=by rw[Az];omega
 unfold rdec at hk ⊢;rw[e0,el];unfold rdecN at hk ⊢;by_cases ha:32<=(l.getD 0 0).toNat/\(l.getD 0 0).toNat<127
 ·simp only[if_pos ha]
 ·simp only[if_neg ha]at hk ⊢;by_cases hb:194<=(l.getD 0 0).toNat/\(l.getD 0 0).toNat<224/\1<l.length/\128<=(l.getD 1 0).toNat/\(l.getD 1 0).toNat<192
  ·simp only[if_pos hb]at hk ⊢;by_cases hc:160<=((l.getD 0 0).toNat - 192)*64+(l.getD 1 0).toNat - 128
   ·rw[if_pos hc]at hk ⊢;have hk2:k=2:=hk.symm;have e1:(l.take k).getD 1 0=l.getD 1 0:=getD_take oQ;rw[e1,if_pos ⟨hb.1,hb.2.1,oQ,hb.2.2.2⟩,if_pos hc]
   ·rw[if_neg hc]at hk;exact absurd hk.symm h
  ·rw[if_neg hb]at hk;rw[if_neg hb];by_cases hd:224<=(l.getD 0 0).toNat/\(l.getD 0 0).toNat<240/\2<l.length/\128<=(l.getD 1 0).toNat/\(l.getD 1 0).toNat<192/\128<=(l.getD 2 0).toNat/\(l.getD 2 0).toNat<192
   ·rw[if_pos hd]at hk;rw[if_pos hd];split at hk
    ·rename_i hq;have hk3:k=3:=hk.symm;have e1:(l.take k).getD 1 0=l.getD 1 0:=getD_take oQ;have e2:(l.take k).getD 2 0=l.getD 2 0:=getD_take oQ;rw[e1,e2,if_neg oQ,if_pos ⟨hd.1,hd.2.1,oQ,hd.2.2.2⟩]
    ·exact absurd hk.symm h
   ·rw[if_neg hd]at hk;exact absurd hk.symm h
theorem valid_piece {l:By} (hne:l≠[]) (hv:valid l=true):valid (l.take (wid l))=true/\l.take (wid l)≠[]:=by
 obtain⟨hz,_,hw,_,_⟩:=valid_head hne hv;have hl:=rdec_le hne;have hlp:=zdr
 have hn:l.take (wid l)≠[]:=by
  intro h0;have:=congrArg Dl h0;rw[Az,hw,Bw]at this;omega
 refine⟨?_,hn⟩;rw[hw]at hn ⊢;have hr:=rdec_head hne hz;rw[valid_step hn,hr,if_neg hz,AS (by rw[Az];omega)];rfl
theorem foldT_ind {σ:Type} (f:σ->By->Nat->σ) (I:σ->By->Prop) (hstep:∀ st l,l≠[]->valid l=true->I st l->I (f st (l.take (wid l)) (rdec l).1) (l.drop (wid l))):∀ (n:Nat) (st:σ) (l:By),l.length<=n->valid l=true->I st l->I (foldT f st l) []
 | 0,st,l,hn,hv,h=>by
  have:l=[]:=Ar oQ;subst this;rw[foldT_nil];exact h
 | n+1,st,l,hn,hv,h=>by
  by_cases hne:l=[]
  ·subst hne;rw[foldT_nil];exact h
  ·obtain⟨_,_,hw,hv2,_⟩:=valid_head hne hv;have hwp:=wid_pos l;rw[foldT_step f _ hne];exact foldT_ind f I hstep n _ _ aX (by rw[hw]at hv2 ⊢;exact hv2) (hstep st l hne hv h)
theorem foldS_valid {l:By} (hv:valid l=true):valid (foldS l)=true:=by
 refine foldT_ind foldStep (fun out _=>valid out=true) (fun out m hne hm ho=>?_) l.length [] l (Ad _) hv rfl;unfold foldStep foldP;refine valid_app ho ?_;split
 ·exact (valid_piece hne hm).1
 ·exact valid_foldC _
theorem foldS_len {l:By} (hv:valid l=true):(foldS l).length<=2*l.length:=by
 have:=foldT_ind foldStep (fun out m=>out.length+2*m.length<=2*l.length) (fun out m hne hm ho=>by
  have hwl:=wid_le hne;have hwp:=wid_pos m;have hc:=foldC_len (rdec m).1;unfold foldStep foldP;rw[Ag,Ay];split
  ·rw[Az];omega
  ·omega) l.length [] l (Ad _) hv oZ
 simpa [foldS] using this
theorem fieldsT_good (p:Nat->Bool) {l:By} (hv:valid l=true):(∀ w∈fieldsT p l,valid w=true/\w≠[])/\lens (fieldsT p l)<=l.length/\(fieldsT p l).length<=l.length:=by
 have hlen:∀ (a:List By) (b:By),lens (a++[b])=lens a+b.length:=fun a b=>by simp[lens]
 have h:=foldT_ind (wStep p) (fun st m=>(∀ w∈st.1,valid w=true/\w≠[])/\valid st.2=true/\lens st.1+st.2.length+m.length<=l.length/\st.1.length+st.2.length+m.length<=l.length+(if st.2=[] then 0 else 0)) (fun st m hne hm ⟨h1,h2,h3,h4⟩=>by
  have hwl:=wid_le hne;have hwp:=wid_pos m;have hpc:=valid_piece hne hm;unfold wStep;rw[Ay];split
  ·split
   ·exact⟨h1,h2,oQ,by simp at h4 ⊢;omega⟩
   ·rename_i h9;have h8:0<st.2.length:=Dz.2 h9;refine⟨fun w hw=>?_,rfl,by rw[hlen];simp;omega,by simp at h4 ⊢;omega⟩;rcases AQ.1 hw with hw | hw
    ·exact h1 w hw
    ·simp at hw;rw[hw];exact⟨h2,h9⟩
  ·refine⟨h1,valid_app h2 hpc.1,?_,?_⟩
   ·simp only[Ag,Az];omega
   ·simp at h4 ⊢;omega) l.length ([],[]) l (Ad _) hv ⟨oZ,rfl,by simp[lens],oZ⟩
 obtain⟨h1,h2,h3,h4⟩:=h;unfold fieldsT wEnd;simp only[Bw,BN]at h3;simp at h4;split
 ·exact⟨h1,oQ,oQ⟩
 ·rename_i h9;have h8:0<(foldT (wStep p) ([],[]) l).2.length:=Dz.2 h9;refine⟨fun w hw=>?_,by rw[hlen];exact h3,by rw[Ag];simp;omega⟩;rcases AQ.1 hw with hw | hw
  ·exact h1 w hw
  ·simp at hw;rw[hw];exact⟨h2,h9⟩
end Tx
namespace Qr
abbrev By:=List UInt8
inductive Qy where
 | mk (op fld:Int) (ws:List ByteArray) (a b:Int) (ks:List Qy)
namespace Qy
def op:Qy->Int | mk o _ _ _ _ _=>o
def fld:Qy->Int | mk _ f _ _ _ _=>f
def ws:Qy->List ByteArray | mk _ _ w _ _ _=>w
def a:Qy->Int | mk _ _ _ a _ _=>a
def b:Qy->Int | mk _ _ _ _ b _=>b
def ks:Qy->List Qy | mk _ _ _ _ _ k=>k
end Qy
theorem Qy.ind {P:Qy->Prop} (h:∀ o f ws a b ks,(∀ k∈ks,P k)->P (.mk o f ws a b ks)):∀ q,P q
 | .mk o f ws a b ks=>h o f ws a b ks fun k _hk=>Qy.ind h k
termination_by q => SizeOf.sizeOf q
decreasing_by have := List.sizeOf_lt_of_mem _hk; simp only [Qy.mk.sizeOf_spec]; omega
mutual
def nodes:Qy->Nat | .mk _ _ _ _ _ ks=>1+nodesL ks
def nodesL:List Qy->Nat | []=>0 | k::r=>nodes k+nodesL r
end
mutual
def depth:Qy->Nat | .mk _ _ _ _ _ ks=>depthL ks+1
def depthL:List Qy->Nat | []=>0 | k::r=>max (depth k) (depthL r)
end
theorem nodesL_app:∀ (l m:List Qy),nodesL (l++m)=nodesL l+nodesL m
 | [],m=>by simp[nodesL]
 | k::r,m=>by rw[BU,nodesL,nodesL,nodesL_app r m];omega
theorem depthL_app:∀ (l m:List Qy),depthL (l++m)=max (depthL l) (depthL m)
 | [],m=>by simp[depthL]
 | k::r,m=>by rw[BU,depthL,depthL,depthL_app r m];omega
theorem take_snoc {α:Type}{l:List α}{k:Nat}{x:α} (h:l[k]?=A3 x):l.take (k+1)=l.take k++[x]:=by
 rw[List.take_add_one,h];rfl
theorem nodes_pos:∀ q,1<=nodes q | .mk _ _ _ _ _ _=>by unfold nodes;omega
theorem depth_nodes:∀ q,depth q<=nodes q:=by
 intro q
 induction q using Qy.ind with
 | h o f ws a b ks ih =>
  have:∀ l:List Qy,(∀ k∈l,depth k<=nodes k)->depthL l<=nodesL l:=by
   intro l
   induction l with
   | nil=>intro _;simp[depthL,nodesL]
   | cons k r ih2=>intro h;have h1:=h k oZ;have h2:=ih2 fun x hx=>h x (by simp[hx]);simp only[depthL,nodesL];omega
  have:=this ks ih;simp only[depth,nodes];omega
theorem nodes_kid {k:Qy}{ks:List Qy} (h:k∈ks):nodes k<=nodesL ks:=by
 induction ks with
 | nil=>simp at h
 | cons x r ih =>
  rw[AL]at h;simp only[nodesL];rcases h with rfl | h
  ·omega
  ·have:=ih h;omega
theorem ks_nodes (ks:List Qy):ks.length<=nodesL ks:=by
 induction ks with
 | nil=>simp
 | cons x r ih=>have:=nodes_pos x;simp only[nodesL,AH];omega
def isWord (s:ByteArray):Bool:=Tx.valid s.data.toList&&(Tx.words s.data.toList == [s.data.toList])
def termE (o f:Int) (ws:List ByteArray) (a b:Int) (n:Nat):Int :=
 if ws.length<1\/(o≠3/\1<ws.length)\/a≠0\/b≠0\/0<n then 3 else if ws.all isWord=false then 3 else if 8<ws.length then 4 else if f<0\/4<f then 2 else 0
def yearsE (f:Int) (ws:List ByteArray) (a b:Int) (n:Nat):Int :=
 if f≠0\/0<ws.length\/0<n then 3 else if a<1\/b<a\/2199<b then 2 else 0
def kidsE (o f:Int) (ws:List ByteArray) (a b:Int) (ks:List Qy):Int :=
 if f≠0\/a≠0\/b≠0\/0<ws.length\/ks.length<2\/(o=7/\2<ks.length) then 3 else if o=7 then 0 else if ks.any (fun k=>decide (k.op=o))=true then 3 else if 8<ks.length then 4 else 0
def nodeE:Qy->Int
 | .mk o f ws a b ks=>if o=1\/o=2\/o=3 then termE o f ws a b ks.length else if o=4 then yearsE f ws a b ks.length else if o=5\/o=6\/o=7 then kidsE o f ws a b ks else 3
mutual
def treeE:Qy->Int | .mk o f ws a b ks=>treeL (nodeE (.mk o f ws a b ks)) ks
def treeL:Int->List Qy->Int | e,[]=>e | e,k::r=>if e=0 then treeL (treeE k) r else e
end
theorem treeL_bad {e:Int} (h:e≠0):∀ l,treeL e l=e
 | []=>by simp[treeL]
 | k::r=>by simp[treeL,h]
theorem treeL_app:∀ (l m:List Qy) (e:Int),treeL e (l++m)=treeL (treeL e l) m
 | [],m,e=>by simp[treeL]
 | k::r,m,e=>by
  by_cases h:e=0
  ·subst h;rw[BU,treeL,if_pos rfl,treeL_app r m,treeL,if_pos rfl]
  ·rw[treeL_bad h,treeL_bad h,treeL_bad h]
def rightE (q:Qy):Int:=if 64<nodes q\/8<depth q then 4 else treeE q
def bys (l:List ByteArray):List By:=l.map (·.data.toList)
end Qr
namespace Cp
open Go.Lib Rc
structure Ord {α:Type} (lt:α->α->Bool):Prop where
 irr:∀ x,lt x x=false
 tr:∀ {x y z},lt x y=true->lt y z=true->lt x z=true
 tot:∀ {x y},lt x y=false->x≠y->lt y x=true
variable {α : Type} [DecidableEq α] {lt : α -> α -> Bool}
def Asc (lt:α->α->Bool) (l:List α):Prop:=l.Pairwise fun x y=>lt x y=true
def put (lt:α->α->Bool):List α->α->List α
 | [],x=>[x]
 | y::r,x=>if lt y x=true then y::put lt r x else if y=x then y::r else x::y::r
theorem put_mem (lt:α->α->Bool):∀ (l:List α) (x z:α),z∈put lt l x↔z=x\/z∈l
 | [],x,z=>by simp[put]
 | y::r,x,z=>by
  unfold put;split
  ·rw[AL,put_mem lt r x z,AL];constructor
   ·rintro (h | h | h)
    ·exact .inr (.inl h)
    ·exact .inl h
    ·exact .inr (.inr h)
   ·rintro (h | h | h)
    ·exact .inr (.inl h)
    ·exact .inl h
    ·exact .inr (.inr h)
  ·split
   ·rename_i h;subst h;rw[AL];constructor
    ·exact fun h=>.inr h
    ·rintro (h | h)
     ·exact .inl h
     ·exact h
   ·rw[AL]
theorem put_asc (o:Ord lt):∀ (l:List α) (x:α),Asc lt l->Asc lt (put lt l x)
 | [],x,_=>by simp[put,Asc]
 | y::r,x,h=>by
  unfold Asc at h;rw[Dw]at h;unfold put Asc;split
  ·rename_i h1;rw[Dw];refine⟨fun z hz=>?_,put_asc o r x h.2⟩;rcases (put_mem lt r x z).1 hz with h2 | h2
   ·rw[h2];exact h1
   ·exact h.1 z h2
  ·rename_i h1;split
   ·exact Dw.2 h
   ·rename_i h2;have h3:=o.tot UG h2;rw[Dw];refine⟨fun z hz=>?_,Dw.2 h⟩;rcases AL.1 hz with h4 | h4
    ·rw[h4];exact h3
    ·exact o.tr h3 (h.1 z h4)
theorem asc_unique (o:Ord lt):∀ (a b:List α),Asc lt a->Asc lt b->(∀ z,z∈a↔z∈b)->a=b
 | [],[],_,_,_=>rfl
 | [],y::b,_,_,h=>by have:=(h y).2 oZ;cases this
 | x::a,[],_,_,h=>by have:=(h x).1 oZ;cases this
 | x::a,y::b,ha,hb,h=>by
  unfold Asc at ha hb;rw[Dw]at ha hb
  have hxy:x=y:=by
   by_cases e:x=y
   ·exact e
   ·have h1:x∈b:=by
     rcases AL.1 ((h x).1 oZ) with h2 | h2
     ·exact absurd h2 e
     ·exact h2
    have h3:y∈a:=by
     rcases AL.1 ((h y).2 oZ) with h2 | h2
     ·exact absurd h2.symm e
     ·exact h2
    have h4:=o.tr (ha.1 y h3) (hb.1 x h1);rw[o.irr]at h4;cases h4
  subst hxy;congr 1;refine asc_unique o a b ha.2 hb.2 fun z=>?_;constructor
  ·intro hz;rcases AL.1 ((h z).1 (by simp[hz])) with h2 | h2
   ·subst h2;have:=ha.1 z hz;rw[o.irr]at this;cases this
   ·exact h2
  ·intro hz;rcases AL.1 ((h z).2 (by simp[hz])) with h2 | h2
   ·subst h2;have:=hb.1 z hz;rw[o.irr]at this;cases this
   ·exact h2
def puts (lt:α->α->Bool) (l:List α):List α:=l.foldl (put lt) []
theorem foldl_put_mem (lt:α->α->Bool):∀ (l acc:List α) (z:α),z∈l.foldl (put lt) acc↔z∈acc\/z∈l
 | [],acc,z=>oZ
 | x::l,acc,z=>by
  rw[Ge,foldl_put_mem lt l _ z,put_mem,AL];constructor
  ·rintro ((h | h) | h)
   ·exact .inr (.inl h)
   ·exact .inl h
   ·exact .inr (.inr h)
  ·rintro (h | h | h)
   ·exact .inl (.inr h)
   ·exact .inl (.inl h)
   ·exact .inr h
theorem foldl_put_asc (o:Ord lt):∀ (l acc:List α),Asc lt acc->Asc lt (l.foldl (put lt) acc)
 | [],_,h=>h
 | x::l,acc,h=>foldl_put_asc o l _ (put_asc o acc x h)
theorem puts_mem (lt:α->α->Bool) (l:List α) (z:α):z∈puts lt l↔z∈l:=by
 unfold puts;rw[foldl_put_mem];simp
theorem puts_asc (o:Ord lt) (l:List α):Asc lt (puts lt l):=foldl_put_asc o l [] List.Pairwise.nil
theorem puts_same (o:Ord lt) {a b:List α} (h:∀ z,z∈a↔z∈b):puts lt a=puts lt b :=
 asc_unique o _ _ (puts_asc o a) (puts_asc o b) fun z=>by rw[puts_mem,puts_mem];exact h z
theorem puts_of (o:Ord lt) {a b:List α} (ha:Asc lt a) (h:∀ z,z∈a↔z∈b):a=puts lt b :=
 asc_unique o _ _ ha (puts_asc o b) fun z=>by rw[puts_mem];exact h z
omit [DecidableEq α] in
theorem at_get [Inhabited α] (zs:List α) (j:Nat) (h:j<zs.length):(zs.toArray)[j]! = zs[j]'h:=by
 rw[getElem!_pos zs.toArray j eJ];simp
theorem compact_at [Inhabited α] (zs:List α):∀ j,j<zs.length->(zs.toArray)[j]!∈compact zs
 | 0,h=>by
  unfold compact compactUpTo;exact BG.2 ⟨0,Be.2 ⟨List.mem_range.2 h,by simp[keeps]⟩,rfl⟩
 | j+1,h=>by
  by_cases e:(zs.toArray)[j+1]! = (zs.toArray)[j]!
  ·rw[e];exact compact_at zs j oQ
  ·unfold compact compactUpTo;exact BG.2 ⟨j+1,Be.2 ⟨List.mem_range.2 h,by unfold keeps;simpa using e⟩,rfl⟩
theorem compact_mem [Inhabited α] (zs:List α) (z:α):z∈compact zs↔z∈zs:=by
 constructor
 ·intro h;unfold compact compactUpTo at h;obtain⟨j,hj,rfl⟩:=BG.1 h;have:=List.mem_range.1 (Be.1 hj).1;rw[at_get zs j this];exact List.getElem_mem _
 ·intro h;obtain⟨j,hj,rfl⟩:=M4.1 h;rw[<- at_get zs j hj];exact compact_at zs j hj
theorem compact_asc [Inhabited α] (o:Ord lt) (zs:List α) (h:zs.Pairwise fun x y=>lt y x=false):Asc lt (compact zs):=by
 unfold Asc compact compactUpTo;rw[List.pairwise_map];have hp:(List.filter (keeps zs.toArray) (Kx zs.length)).Pairwise (·<·):=List.Pairwise.filter _ List.pairwise_lt_range;have hm:∀ j∈List.filter (keeps zs.toArray) (Kx zs.length),j<zs.length/\keeps zs.toArray j=true:=fun j hj=>⟨List.mem_range.1 (Be.1 hj).1,(Be.1 hj).2⟩;rw[List.pairwise_iff_forall_sublist]at hp ⊢;intro i j hs;have hij:i<j:=hp hs;obtain⟨hj,hk⟩:=hm j (hs.subset oZ);rw[List.pairwise_iff_getElem]at h;unfold keeps at hk;rw[decide_eq_true_eq]at hk;have hne:=hk.resolve_left oQ;rw[at_get zs j hj,at_get zs (j - 1) oQ]at hne;rw[at_get zs i oQ,at_get zs j hj];have h1:lt (zs[j - 1]' oQ) (zs[j]'hj)=true:=o.tot (h (j - 1) j oQ hj oQ) hne;by_cases e:i=j - 1
 ·subst e;exact h1
 ·have h2:=h i (j - 1) oQ oQ oQ;by_cases e2:(zs[i]' oQ)=(zs[j - 1]' oQ)
  ·rw[e2];exact h1
  ·exact o.tr (o.tot h2 (fun e3=>e2 e3.symm)) h1
theorem compact_puts [Inhabited α] (o:Ord lt) {zs ys:List α} (hp:zs.Perm ys) (h:zs.Pairwise fun x y=>lt y x=false):compact zs=puts lt ys :=
 puts_of o (compact_asc o zs h) fun z=>by rw[compact_mem];exact hp.mem_iff
def ltI (a b:Int):Bool:=decide (a<b)
theorem ordI:Ord ltI:=⟨fun x=>by simp[ltI],fun {x y z} h1 h2=>by unfold ltI at *;simp at *;omega,fun {x y} h1 h2=>by unfold ltI at *;simp at *;omega⟩
def ltB (a b:By):Bool:=decide (a<b)
theorem ordB:Ord ltB:=⟨fun x=>by unfold ltB;simp[FW],fun {x y z} h1 h2=>by unfold ltB at *;simp at *;exact List.lt_trans h1 h2,fun {x y} h1 h2=>by
 unfold ltB at *;simp at *;rcases List.le_total x y with h | h
 ·exact absurd (List.le_antisymm h h1) h2
 ·rw[<- List.not_le];intro h3;exact h2 (List.le_antisymm h3 h)⟩
end Cp
namespace Ds
open Go.Lib Rc
theorem firstNZ_le (M:Nat):∀ (l:List Nat),(∀ x∈l,x<=M)->firstNZ l<=M
 | [],_=>by simp[firstNZ]
 | x::r,h=>by
  unfold firstNZ;split
  ·exact firstNZ_le M r (fun y hy=>h y uW)
  ·exact h x oZ
theorem yearF_le (l:List ByteArray):yearF l<=2199:=firstNZ_le _ _ fun x hx=>by
 obtain⟨y,_,rfl⟩:=zqb;exact yr_le _ _ _
theorem year_le (fs:List Fl):year fs<=2199:=firstNZ_le _ _ fun x hx=>by
 obtain⟨f,_,rfl⟩:=zqb;split
 ·exact yearF_le _
 ·omega
end Ds
namespace Rc
end Rc
namespace Tx
end Tx
namespace Sr
open Tx
abbrev By:=List UInt8
def arts (lang:By):List By :=
 if lang=[101,110,103] then [[116,104,101],[97],[97,110]] else if lang=[103,101,114] then [[100,101,114],[100,105,101],[100,97,115],[101,105,110],[101,105,110,101]] else if lang=[115,119,101] then [[101,110],[101,116,116],[100,101,110],[100,101,116],[100,101]]
 else if lang=[115,112,97] then [[101,108],[108,97],[108,111,115],[108,97,115],[117,110],[117,110,97]] else []
def artT:List By->By
 | []=>[32]
 | x::r=>32::(x++artT r)
theorem ygr (h:P:=by
 constructor
 ·intro h;rw[C8,BU,FZ]at h;exact absurd h.1 h0
 ·intro h;cases h):P:=h
theorem pre_word:∀ (x v r:By),(32:UInt8) ∉ x->(32:UInt8) ∉ v->(x++[32] <+: v++32::r↔x=v)
 | [],[],r,_,_=>oZ
 | [],d::v,r,_,hv=>by
  have h0:=zlx;exact ygr
 | c::x,[],r,hx,_=>by
  have h0:c≠(32:UInt8):=fun e=>hx ztd;exact ygr
 | c::x,d::v,r,hx,hv=>by
  have ih:=pre_word x v r (fun h=>hx (BH _ h)) (fun h=>hv (BH _ h));rw[BU,BU,FZ,ih,List.cons.injEq]
theorem artT_cons (l:List By):∃ r,artT l=32::r:=by cases l <;> exact⟨_,rfl⟩
theorem inf_word {x:By}:∀ (v t:By),(32:UInt8) ∉ v->(32::x <:+: v++t↔32::x <:+: t)
 | [],t,_=>oZ
 | d::v,t,hv=>by
  have h0:=zlx;rw[BU,List.infix_cons_iff,inf_word v t (fun h=>hv (BH _ h))];constructor
  ·rintro (h | h)
   ·rw[FZ]at h;exact absurd h.1 h0
   ·exact h
  ·exact Or.inr
theorem art_in {x:By} (hx:(32:UInt8) ∉ x):∀ (l:List By),(∀ v∈l,(32:UInt8) ∉ v)->(32::(x++[32]) <:+: artT l↔x∈l)
 | [],_=>by
  constructor
  ·intro h;have:=h.length_le;simp[artT]at this
  ·intro h;cases h
 | v::l,hl=>by
  have hv:=hl v B8;have ih:=art_in hx l (fun u hu=>hl u (BH _ hu));obtain⟨r,hr⟩:=artT_cons l;have e:artT (v::l)=32::(v++artT l):=rfl;rw[e,List.infix_cons_iff,FZ,inf_word v _ hv,ih,AL,hr,pre_word x v r hx hv];simp
theorem arts_plain (lang:By):∀ v∈arts lang,(32:UInt8) ∉ v:=by
 unfold arts;split
 ·decide
 ·split
  ·decide
  ·split
   ·decide
   ·split
    ·decide
    ·intro v hv;cases hv
def skip (lang s:By):By :=
 if foldS (s.takeWhile (· != 32))∈arts lang/\(s.dropWhile (· != 32)).dropWhile (· == 32)≠[] then (s.dropWhile (· != 32)).dropWhile (· == 32) else s
def replC (lang:By) (q:By) (c:Nat):By :=
 if 123<=c/\c<=126 then [32]
 else if lang=[103,101,114] then (if c=196\/c=228 then [97,101] else if c=214\/c=246 then [111,101] else if c=220\/c=252 then [117,101] else q)
 else if lang=[115,119,101] then (if c=197\/c=229 then [123] else if c=196\/c=228 then [124] else if c=214\/c=246 then [125] else q)
 else if lang=[115,112,97] then (if c=209\/c=241 then [110,126] else q)
 else q
def repl (lang s:By):By:=foldT (fun out q c=>out++replC lang q c) [] s
def letter (c:Nat):Bool:=(decide (97<=c)&&decide (c<=122))||(decide (48<=c)&&decide (c<=57))||(decide (123<=c)&&decide (c<=126))||decide (256<=c)
def keyStep (st:By × Bool) (q:By) (c:Nat):By × Bool :=
 if letter c=true then ((if st.2=true/\st.1≠[] then st.1++[32] else st.1)++q,false) else (st.1,true)
def key (lang s:By):By:=(foldT keyStep ([],false) (foldS (repl lang s))).1
def cmpB (a b:By):Int:=if Cp.ltB a b=true then -1 else if a=b then 0 else 1
def cmp (lang a b:By):Int:=if key lang a=key lang b then cmpB a b else cmpB (key lang a) (key lang b)
end Sr
namespace Ix
abbrev By:=List UInt8
structure Post where
 fld:Int
 word:By
 id:Int
 at_:List Int
def ltK (a b:Post):Bool:=Cp.ltI a.fld b.fld||(decide (a.fld=b.fld)&&(Cp.ltB a.word b.word||(decide (a.word=b.word)&&Cp.ltI a.id b.id)))
def sameK (a b:Post):Prop:=a.fld=b.fld/\a.word=b.word/\a.id=b.id
theorem ltK_iff (a b:Post):ltK a b=true↔a.fld<b.fld\/(a.fld=b.fld/\(a.word<b.word\/(a.word=b.word/\a.id<b.id))):=by
 unfold ltK Cp.ltI Cp.ltB;simp
theorem ltB_tri (a b:By) (h1:¬ a<b) (h2:a≠b):b<a:=by
 have:=(Cp.ordB).tot (x:=a) (y:=b) (by simpa [Cp.ltB] using h1) h2;simpa [Cp.ltB] using this
theorem ltK_irrefl (a:Post):ltK a a=false:=by
 rw[CV];intro h;rw[ltK_iff]at h;rcases h with h | ⟨_,h | ⟨_,h⟩⟩
 ·omega
 ·exact FW _ h
 ·omega
theorem ltK_trans {a b c:Post} (h1:ltK a b=true) (h2:ltK b c=true):ltK a c=true:=by
 rw[ltK_iff]at *;rcases h1 with h1 | ⟨e1,h1⟩
 ·rcases h2 with h2 | ⟨e2,_⟩
  ·exact .inl oQ
  ·exact .inl oQ
 ·rcases h2 with h2 | ⟨e2,h2⟩
  ·exact .inl oQ
  ·refine .inr ⟨oQ,?_⟩;rcases h1 with h1 | ⟨f1,h1⟩
   ·rcases h2 with h2 | ⟨f2,_⟩
    ·exact .inl (List.lt_trans h1 h2)
    ·exact .inl (f2▸h1)
   ·rcases h2 with h2 | ⟨f2,h2⟩
    ·exact .inl (f1▸h2)
    ·exact .inr ⟨f1.trans f2,oQ⟩
theorem ltK_tri {a b:Post} (h1:ltK a b=false) (h:¬ sameK a b):ltK b a=true:=by
 rw[CV]at h1;rw[ne_eq,ltK_iff]at h1;rw[ltK_iff];by_cases e1:a.fld=b.fld
 ·refine .inr ⟨e1.symm,?_⟩;by_cases e2:a.word=b.word
  ·refine .inr ⟨e2.symm,?_⟩;by_cases e3:a.id=b.id
   ·exact absurd ⟨e1,e2,e3⟩ h
   ·have:¬ a.id<b.id:=fun h9=>h1 (.inr ⟨e1,.inr ⟨e2,h9⟩⟩);omega
  ·exact .inl (ltB_tri _ _ (fun h9=>h1 (.inr ⟨e1,.inl h9⟩)) e2)
 ·exact .inl (by have:¬ a.fld<b.fld:=fun h9=>h1 (.inl h9);omega)
theorem ltK_ne {a b:Post} (h:ltK a b=true):¬ sameK a b:=by
 rintro⟨e1,e2,e3⟩;rw[ltK_iff]at h;rcases h with h | ⟨_,h | ⟨_,h⟩⟩
 ·omega
 ·rw[e2]at h;exact FW _ h
 ·omega
def Asc (l:List Post):Prop:=l.Pairwise fun x y=>ltK x y=true
def ins:List Post->Post->List Post
 | [],x=>[x]
 | y::l,x=>if ltK x y=true then x::y::l else y::ins l x
theorem ins_perm:∀ (l:List Post) (x:Post),(ins l x).Perm (x::l)
 | [],x=>List.Perm.refl _
 | y::l,x=>by
  unfold ins;split
  ·exact List.Perm.refl _
  ·exact ((ins_perm l x).cons y).trans (List.Perm.swap x y l)
theorem ins_asc:∀ (l:List Post) (x:Post),Asc l->(∀ y∈l,¬ sameK x y)->Asc (ins l x)
 | [],x,_,_=>List.pairwise_singleton _ _
 | y::l,x,h,hne=>by
  have h':=Dw.1 h;unfold ins;split
  ·rename_i hxy;refine Dw.2 ⟨fun z hz=>?_,h⟩;rcases AL.1 hz with e | hz
   ·rw[e];exact hxy
   ·exact ltK_trans hxy (h'.1 z hz)
  ·rename_i hxy;refine Dw.2 ⟨fun z hz=>?_,ins_asc l x h'.2 (fun z hz=>hne z (BH _ hz))⟩;rcases AL.1 ((ins_perm l x).mem_iff.1 hz) with e | hz
   ·rw[e];exact ltK_tri (by simpa using hxy) (hne y (B8 ..))
   ·exact h'.1 z hz
def Ownk (l:List Post):Prop:=l.Pairwise fun x y=>¬ sameK x y
theorem sameK_symm {a b:Post} (h:sameK a b):sameK b a:=⟨h.1.symm,h.2.1.symm,h.2.2.symm⟩
theorem Ownk.perm {a b:List Post} (h:Ownk a) (hp:a.Perm b):Ownk b:=hp.pairwise h (fun h k=>h (sameK_symm k))
theorem fold_perm:∀ (ps acc:List Post),(ps.foldl ins acc).Perm (acc++ps)
 | [],acc=>by rw[List.append_nil];exact List.Perm.refl _
 | p::ps,acc=>by
  rw[Ge];refine (fold_perm ps _).trans ?_;refine ((ins_perm acc p).append_right ps).trans ?_;exact (List.perm_middle (a:=p) (l₁:=acc) (l₂:=ps)).symm
theorem fold_asc:∀ (ps acc:List Post),Asc acc->Ownk (acc++ps)->Asc (ps.foldl ins acc)
 | [],_,h,_=>h
 | p::ps,acc,h,ho=>by
  rw[Ge];have h1:=List.pairwise_append.1 ho;refine fold_asc ps _ (ins_asc acc p h (fun y hy k=>h1.2.2 y hy p (B8 ..) (sameK_symm k))) ?_;exact ho.perm ((List.perm_middle (a:=p) (l₁:=acc) (l₂:=ps)).trans ((ins_perm acc p).symm.append_right ps))
theorem asc_perm:∀ (a b:List Post),Asc a->Asc b->a.Perm b->a=b
 | [],b,_,_,h=>(List.Perm.nil_eq h)
 | x::a,[],_,_,h=>by have:=h.length_eq;simp at this
 | x::a,y::b,ha,hb,h=>by
  have ha':=Dw.1 ha;have hb':=Dw.1 hb
  have e:x=y:=by
   rcases AL.1 (h.mem_iff.1 (B8 ..)) with e | hx
   ·exact e
   ·rcases AL.1 (h.mem_iff.2 (B8 ..)) with e | hy
    ·exact e.symm
    ·have h1:=hb'.1 x hx;have h2:=ha'.1 y hy;have h3:=ltK_trans h1 h2;rw[ltK_irrefl]at h3;cases h3
  subst e;rw[asc_perm a b ha'.2 hb'.2 (List.Perm.cons_inv h)]
theorem sorted_eq {s ps acc:List Post} (ha:Asc acc) (ho:Ownk (acc++ps)) (hp:s.Perm (acc++ps)) (hs:s.Pairwise fun x y=>ltK y x=false):s=ps.foldl ins acc:=by
 have h1:=fold_asc ps acc ha ho;have h2:Ownk s:=ho.perm hp.symm
 have h3:Asc s:=by
  have:=h2.and hs;exact this.imp fun⟨hn,hf⟩=>ltK_tri hf (fun k=>hn (sameK_symm k))
 exact asc_perm _ _ h3 h1 (hp.trans (fold_perm ps acc).symm)
end Ix
namespace Hd
open Go.Lib Rc
theorem valid_cut {c:UInt8} (hc:32<=c.toNat/\c.toNat<127):∀ (n:Nat) (w r:By),w.length<=n->Tx.valid (w++c::r)=true->Tx.valid w=true/\Tx.valid (c::r)=true
 | 0,w,r,hn,hv=>by
  have:w=[]:=Ar oQ;subst this;exact⟨rfl,hv⟩
 | n+1,w,r,hn,hv=>by
  by_cases hw:w=[]
  ·subst hw;exact⟨rfl,hv⟩
  ·have hne:w++c::r≠[]:=oZ;obtain⟨hz,_,hwd,hv2,_⟩:=Tx.valid_head hne hv;have hle:=Tx.rdec_le hne;have hwl:0<w.length:=Dz.2 hw
   have hk:(Tx.rdec (w++c::r)).2<=w.length:=by
    rcases D5 w.length (Tx.rdec (w++c::r)).2 with h9 | h9
    ·exfalso;have hcc:(w++c::r).getD w.length 0=c:=by simp[Bi]
     unfold Tx.rdec Tx.rdecN at h9;split at h9
     ·have h8:w.length<1:=h9;omega
     ·split at h9
      ·rename_i hq;split at h9
       ·have h7:w.length<2:=h9;have:w.length=1:=oQ;rw[this]at hcc;rw[hcc]at hq;omega
       ·exact absurd h9 (Md _)
      ·split at h9
       ·rename_i hq;split at h9
        ·have h7:w.length<3:=h9;have:w.length=1\/w.length=2:=oQ;rcases this with h8 | h8
         ·rw[h8]at hcc;rw[hcc]at hq;omega
         ·rw[h8]at hcc;rw[hcc]at hq;omega
        ·exact absurd h9 (Md _)
       ·exact absurd h9 (Md _)
    ·exact h9
   have hrd:Tx.rdec w=Tx.rdec (w++c::r):=by
    have h1:=Tx.rdec_head hne hz;rw[List.take_append_of_le_length hk]at h1
    have hpn:w.take (Tx.rdec (w++c::r)).2≠[]:=by
     intro h0;have:=congrArg Dl h0;rw[Az,Bw]at this;omega
    have h2:=rdec_append (a:=w.take (Tx.rdec (w++c::r)).2) (w.drop (Tx.rdec (w++c::r)).2) hpn (by rw[h1];exact hz);rw[BY]at h2;rw[h2,h1]
   rw[hwd]at hv2;rw[Gn hk]at hv2;obtain⟨h3,h4⟩:=valid_cut hc n (w.drop (Tx.rdec (w++c::r)).2) r aX hv2;refine⟨?_,h4⟩;rw[Tx.valid_step hw,hrd,if_neg hz];exact h3
theorem valid_tail:∀ (p r:By),(∀ c∈p,32<=c.toNat/\c.toNat<127)->Tx.valid (p++r)=true->Tx.valid r=true
 | [],r,_,h=>h
 | c::p,r,hp,h=>by
  have hc:=hp c oZ;rw[BU,Tx.valid_step oZ,Tx.rdec_asc _ hc,if_neg (show ¬ (c.toNat,1).2=0 by simp)]at h;exact valid_tail p r (fun x hx=>hp x (by simp[hx])) h
end Hd
namespace Tx
open Go.Lib Rc
theorem take2 {l:By} (h:2<=l.length):l.take 2=[l.getD 0 0,l.getD 1 0]:=by
 match l,h with
 | a::b::r,_=>rfl
theorem take3 {l:By} (h:3<=l.length):l.take 3=[l.getD 0 0,l.getD 1 0,l.getD 2 0]:=by
 match l,h with
 | a::b::c::r,_=>rfl
theorem take1 {l:By} (h:1<=l.length):l.take 1=[l.getD 0 0]:=by
 match l,h with
 | a::r,_=>rfl
theorem byte_of {n:Int}{b:UInt8} (h:n=b.toNat):n.toNat.toUInt8=b:=by
 subst h;simp
theorem enc_head {l:By} (hne:l≠[]) (h:(rdec l).2≠0):encodeRune ((rdec l).1:Int)=l.take (rdec l).2:=by
 have hl:=zdr;have b0:=Fj (l.getD 0 0);have b1:=Fj (l.getD 1 0);have b2:=Fj (l.getD 2 0);unfold rdec rdecN at h ⊢;by_cases ha:32<=(l.getD 0 0).toNat/\(l.getD 0 0).toNat<127
 ·simp only[if_pos ha]at h ⊢;rw[take1 oQ];unfold encodeRune;rw[encodeRuneZ_one oQ oQ];simp
 ·simp only[if_neg ha]at h ⊢;by_cases hb:194<=(l.getD 0 0).toNat/\(l.getD 0 0).toNat<224/\1<l.length/\128<=(l.getD 1 0).toNat/\(l.getD 1 0).toNat<192
  ·simp only[if_pos hb]at h ⊢;by_cases hc:160<=((l.getD 0 0).toNat - 192)*64+(l.getD 1 0).toNat - 128
   ·simp only[if_pos hc]at h ⊢;rw[take2 oQ];unfold encodeRune;rw[encodeRuneZ_two oQ oQ];simp only[BX,Do];rw[byte_of (b:=l.getD 0 0) oQ,byte_of (b:=l.getD 1 0) oQ]
   ·simp only[if_neg hc]at h;exact absurd rfl h
  ·simp only[if_neg hb]at h ⊢;by_cases hd:224<=(l.getD 0 0).toNat/\(l.getD 0 0).toNat<240/\2<l.length/\128<=(l.getD 1 0).toNat/\(l.getD 1 0).toNat<192/\128<=(l.getD 2 0).toNat/\(l.getD 2 0).toNat<192
   ·simp only[if_pos hd]at h ⊢;split at h
    ·rename_i hq;simp only[if_pos hq];rw[take3 oQ];unfold encodeRune;rw[encodeRuneZ_three oQ];simp only[BX,Do];rw[byte_of (b:=l.getD 0 0) oQ,byte_of (b:=l.getD 1 0) oQ,byte_of (b:=l.getD 2 0) oQ]
    ·exact absurd rfl h
   ·simp only[if_neg hd]at h;exact absurd rfl h
def accL:By:=[97,44,97,44,97,44,97,44,97,44,97,44,97,101,44,99,44,101,44,101,44,101,44,101,44,105,44,105,44,105,44,105,44,100,44,110,44,111,44,111,44,111,44,111,44,111,44,44,111,44,117,44,117,44,117,44,117,44,121,44,116,104,44,115,115,44,97,44,97,44,97,44,97,44,97,44,97,44,97,101,44,99,44,101,44,101,44,101,44,101,44,105,44,105,44,105,44,105,44,100,44,110,44,111,44,111,44,111,44,111,44,111,44,44,111,44,117,44,117,44,117,44,117,44,121,44,116,104,44,121]
theorem acc_split:split accL [44]=(Kx 64).map fun k=>foldC (192+k):=by decide +kernel
theorem acc_count:count accL [44]=63:=by decide +kernel
theorem foldP_up {q:By}{c:Nat} (h:65<=c/\c<=90):foldP q c=[Dm (c+32)]:=by
 unfold foldP foldC;rw[if_pos h,if_neg oZ]
theorem foldP_tab {q:By}{c:Nat} (hne:foldC c≠[]):foldP q c=foldC c:=by unfold foldP;rw[if_neg hne]
theorem foldP_same {q:By}{c:Nat} (he:foldC c=[]):foldP q c=q:=by unfold foldP;rw[if_pos he]
theorem foldC_out {c:Nat} (h1:¬ (65<=c/\c<=90)) (h:c<192\/255<c):foldC c=[]:=by
 unfold foldC;rw[if_neg h1,if_pos oQ]
theorem enc_up {c:Nat} (h:65<=c/\c<=90):encodeRune ((c+32:Nat):Int)=[Dm (c+32)]:=by
 unfold encodeRune;rw[encodeRuneZ_one oQ oQ];simp only[BX,Do];rfl
end Tx
namespace Sr
open Tx
theorem takeW_all {p:UInt8->Bool}:∀ {s:By},(∀ c∈s,p c=true)->s.takeWhile p=s/\s.dropWhile p=[]
 | [],_=>⟨rfl,rfl⟩
 | c::r,h=>by
  have hc:=h c B8;have ih:=takeW_all (p:=p) (s:=r) fun d hd=>h d (BH _ hd);rw[Gr,Fx,if_pos hc,if_pos hc,ih.1,ih.2];exact⟨rfl,rfl⟩
theorem takeW_cut {p:UInt8->Bool}{d:UInt8} (hd:p d=false):∀ {w r:By},(∀ c∈w,p c=true)->(w++d::r).takeWhile p=w/\(w++d::r).dropWhile p=d::r
 | [],r,_=>by
  rw[C8,Gr,Fx,if_neg (by rw[hd];decide),if_neg (by rw[hd];decide)];exact⟨rfl,rfl⟩
 | c::w,r,h=>by
  have hc:=h c B8;have ih:=takeW_cut (p:=p) hd (w:=w) (r:=r) fun d hd=>h d (BH _ hd);rw[BU,Gr,Fx,if_pos hc,if_pos hc,ih.1,ih.2];exact⟨rfl,rfl⟩
theorem no_blank {s:By} (h:(32:UInt8) ∉ s):∀ c∈s,(c != 32)=true:=fun _ hc=>bne_iff_ne.2 fun e=>h (e▸hc)
theorem skip_none {lang s:By} (h:(32:UInt8) ∉ s):skip lang s=s:=by
 unfold skip;rw[(takeW_all (no_blank h)).2,if_neg];rintro⟨_,h2⟩;exact h2 rfl
theorem skip_cut {lang w r:By} (h:(32:UInt8) ∉ w):skip lang (w++32::r)=if foldS w∈arts lang/\r.dropWhile (· == 32)≠[] then r.dropWhile (· == 32) else w++32::r:=by
 unfold skip;rw[(takeW_cut (p:=fun c=>c != 32) (d:=32) rfl (no_blank h)).1,(takeW_cut (p:=fun c=>c != 32) (d:=32) rfl (no_blank h)).2,Fx,if_pos (show ((32:UInt8) == 32)=true from rfl)]
theorem cut_none {s:By} (h:(32:UInt8) ∉ s):Fg s [32]=(s,[],false):=by
 unfold Fg
 have:Lib.index s [32]=-1:=Lib.index_none fun j _=>by
  unfold Lib.occAt;rw[CV];intro h9;have h8:=E7.1 h9;exact h (Hj (h8.subset B8))
 rw[this,if_neg oX]
theorem cut_at {w r:By} (h:(32:UInt8) ∉ w):Fg (w++32::r) [32]=(w,r,true):=by
 unfold Fg
 have:Lib.index (w++32::r) [32]=(w.length:Int):=by
  refine Lib.index_first oZ ?_ fun j hj=>?_
  ·unfold Lib.occAt;rw[List.drop_left];rfl
  ·unfold Lib.occAt;rw[CV];intro h9;have h8:=E7.1 h9;rw[Gn oQ]at h8
   obtain⟨c,t,e⟩:∃ c t,w.drop j=c::t:=by
    cases hd:w.drop j with
    | nil=>have:=List.drop_eq_nil_iff.1 hd;omega
    | cons c t=>exact⟨c,t,rfl⟩
   rw[e,BU,FZ]at h8;exact h (Hj (i:=j) (by rw[e,h8.1];exact B8))
 rw[this,if_pos oQ,Int.toNat_natCast,List.take_left,show w.length+([32]:By).length=w.length+1 from rfl,<- BQ,List.drop_left];rfl
theorem split_blank (s:By):(32:UInt8) ∉ s\/∃ w r,s=w++32::r/\(32:UInt8) ∉ w:=by
 by_cases h:(32:UInt8)∈s
 ·right
  induction s with
  | nil=>cases h
  | cons c t ih =>
   by_cases hc:c=32
   ·exact⟨[],t,by rw[hc];rfl,oZ⟩
   ·have ht:(32:UInt8)∈t:=by
     rcases AL.1 h with h | h
     ·exact absurd h.symm hc
     ·exact h
    obtain⟨w,r,e,hw⟩:=ih ht;refine⟨c::w,r,by rw[e];rfl,?_⟩;rw[AL,not_or];exact⟨fun e=>hc e.symm,hw⟩
 ·exact .inl h
def artM (lang:By):By :=
 if lang=[101,110,103] then [32,116,104,101,32,97,32,97,110,32] else if lang=[103,101,114] then [32,100,101,114,32,100,105,101,32,100,97,115,32,101,105,110,32,101,105,110,101,32] else if lang=[115,119,101] then [32,101,110,32,101,116,116,32,100,101,110,32,100,101,116,32,100,101,32] else if lang=[115,112,97] then [32,101,108,32,108,97,32,108,111,115,32,108,97,115,32,117,110,32,117,110,97,32] else []
theorem contains_iff {s x:By}:Mk s x=true↔x <:+: s:=by
 unfold Mk;rw[decide_eq_true_eq];rcases Lib.index_spec s x with⟨h1,h2⟩ | ⟨i,h1,h2,h3,_⟩
 ·rw[h1];refine⟨fun h=>absurd h oX,?_⟩;rintro⟨a,b,e⟩;have:=h2 a.length (by rw[<- e,Ag,Ag];omega);unfold Lib.occAt at this;rw[<- e,AW,List.drop_left]at this;rw[List.isPrefixOf_iff_prefix.2 (List.prefix_append x b)]at this;cases this
 ·rw[h1];refine⟨fun _=>?_,fun _=>oQ⟩;unfold Lib.occAt at h3;have h4:=E7.1 h3;exact h4.isInfix.trans (List.drop_suffix i s).isInfix
theorem contains_art {lang x:By} (hx:(32:UInt8) ∉ x):Mk (artM lang) (32::(x++[32]))=decide (x∈arts lang):=by
 rw[Bx,contains_iff,decide_eq_true_eq]
 have key:∀ l:List By,(∀ v∈l,(32:UInt8) ∉ v)->artM lang=artT l->arts lang=l->(32::(x++[32]) <:+: artM lang↔x∈arts lang):=fun l h1 h2 h3=>by
  rw[h2,h3];exact art_in hx l h1
 by_cases h1:lang=[101,110,103]
 ·subst h1;exact key _ (arts_plain [101,110,103]) oX rfl
 ·by_cases h2:lang=[103,101,114]
  ·subst h2;exact key _ (arts_plain [103,101,114]) oX rfl
  ·by_cases h3:lang=[115,119,101]
   ·subst h3;exact key _ (arts_plain [115,119,101]) oX rfl
   ·by_cases h4:lang=[115,112,97]
    ·subst h4;exact key _ (arts_plain [115,112,97]) oX rfl
    ·unfold artM arts;rw[if_neg h1,if_neg h2,if_neg h3,if_neg h4,if_neg h1,if_neg h2,if_neg h3,if_neg h4];refine⟨fun h=>?_,fun h=>by cases h⟩;have:=h.length_le;simp at this
theorem contains_blank {x:By}:Mk x [32]=decide ((32:UInt8)∈x):=by
 rw[Bx,contains_iff,decide_eq_true_eq];constructor
 ·intro h;exact h.subset B8
 ·intro h;obtain⟨a,b,e⟩:=List.append_of_mem h;exact⟨a,b,by rw[e,AW];rfl⟩
theorem arts_no {lang x:By} (hx:(32:UInt8)∈x):x ∉ arts lang:=fun h=>arts_plain lang x h hx
theorem trim_blanks (r:By):Lib.trimLeftB r 32=r.dropWhile (· == 32):=rfl
theorem arts_nil {lang:By}:([]:By) ∉ arts lang:=fun h=>by
 have:∀ lang,([]:By) ∉ arts lang:=by
  intro lang;unfold arts;split
  ·decide
  ·split
   ·decide
   ·split
    ·decide
    ·split
     ·decide
     ·intro h;cases h
 exact this lang h
theorem tw {p:UInt8->Bool}:∀ {l:By}{c:UInt8},c∈l.takeWhile p->p c=true
 | [],_,h=>by cases h
 | d::r,c,h=>by
  rw[Gr]at h;split at h
  ·rename_i hd;rcases AL.1 h with e | h
   ·rw[e];exact hd
   ·exact tw h
  ·cases h
theorem skip_valid {lang s:By} (hv:valid s=true):valid (skip lang s)=true:=by
 rcases split_blank s with h | ⟨w,r,rfl,hw⟩
 ·rw[skip_none h];exact hv
 ·rw[skip_cut hw];split
  ·have h1:=(Hd.valid_cut (c:=32) oX _ w r (Ad _) hv).2;have h2:valid ((32::r.takeWhile (· == 32))++r.dropWhile (· == 32))=true:=by rw[BU,List.takeWhile_append_dropWhile];exact h1
   refine Hd.valid_tail _ _ (fun c hc=>?_) h2
   have hc2:c=32:=by
    rcases AL.1 hc with e | hc
    ·exact e
    ·have:=tw hc;simpa using this
   rw[hc2];decide
  ·exact hv
theorem dw_len (p:UInt8->Bool) (l:By):(l.dropWhile p).length<=l.length:=(List.dropWhile_sublist p).length_le
theorem skip_len (lang s:By):(skip lang s).length<=s.length:=by
 unfold skip;split
 ·exact Au (dw_len _ _) (dw_len _ _)
 ·exact Ad _
theorem replC_valid {lang q:By}{c:Nat} (hq:valid q=true):valid (replC lang q c)=true:=by
 unfold replC
 repeat' split
 all_goals first | exact hq | decide
theorem repl_valid {lang s:By} (hv:valid s=true):valid (repl lang s)=true:=by
 have:=foldT_ind (fun (out:By) q c=>out++replC lang q c) (fun st _=>valid st=true) (fun st m hne hm ho=>Rc.valid_app ho (replC_valid (valid_piece hne hm).1)) s.length [] s (Ad _) hv rfl;exact this
theorem replC_len (lang q:By) (c:Nat):(replC lang q c).length<=q.length+2:=by
 unfold replC
 repeat' split
 all_goals first | omega | (simp)
theorem repl_len {lang s:By} (hv:valid s=true):(repl lang s).length<=3*s.length:=by
 have:=foldT_ind (fun (out:By) q c=>out++replC lang q c) (fun st m=>st.length+3*m.length<=3*s.length) (fun st m hne hm ho=>by
  have h1:=replC_len lang (m.take (wid m)) (rdec m).1;have h2:=wid_pos m;have h3:=wid_le hne;rw[Ag,Ay];rw[Az,Nat.min_eq_left h3]at h1;omega) s.length [] s (Ad _) hv oZ
 have h2:(repl lang s).length+3*([]:By).length<=3*s.length:=this;simpa using h2
end Sr
end Go.Proofs.YtlakomilichhnaaGreatDoor
