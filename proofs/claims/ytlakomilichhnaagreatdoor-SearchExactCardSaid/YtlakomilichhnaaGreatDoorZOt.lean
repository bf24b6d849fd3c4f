/- Texts of this seat's, what the claim needs of them. -/
import Derived.Lib.ValidLaws
import Derived.Lib.FieldsP
import Derived.Lib.Join
import Derived.Lib.Atoi
import Derived.Lib.AtoiAll
import Derived.Lib.ItoaNum
import Derived.Test.YtlakomilichhnaaGreatDoorProg
import Derived.WalkKit
import Derived.WalkSpells
import Derived.WalkLawsBesides
import Derived.Deep.QuietTactic
import Derived.BigQuiet
import Derived.Lib.Hide
import Derived.Lib.Split
import Derived.Lib.IndexBytes
import Derived.Lib.IndexLaws
namespace Go.Proofs.YtlakomilichhnaaGreatDoor
set_option maxHeartbeats 4000000
set_option maxRecDepth 100000
open Go.RowKit
open List renaming cons_append→CG,drop_drop→BT,eq_nil_of_length_eq_zero→Aw,length→Cd,length_append→Af,length_cons→AO,length_drop→AG,length_pos_iff→BV,map_append→AS,map_cons→Cf,map_nil→Ee
open Nat renaming le_refl→An,lt_or_ge→Cv,strongRecOn→Lw
open Option renaming bind_some→Gp,none→A4,some→A2
open Option.some renaming injEq→Jc
open UInt8 renaming ofNat→DG,toNat_lt→DN,toNat_ofNat'→M1
namespace Tx
open Go.Lib
def rdecN (n b0 b1 b2:Nat):Nat × Nat :=
  if 32≤b0∧b0<127 then (b0,1)
  else if 194≤b0∧b0<224∧1<n∧128≤b1∧b1<192 then
    (if 160≤(b0 - 192)*64+b1 - 128 then ((b0 - 192)*64+b1 - 128,2) else (0,0))
  else if 224≤b0∧b0<240∧2<n∧128≤b1∧b1<192∧128≤b2∧b2<192 then
    (if 2048 ≤ (b0 - 224) * 4096 + (b1 - 128) * 64 + b2 - 128 ∧ ((b0 - 224) * 4096 + (b1 - 128) * 64 + b2 - 128 < 55296 ∨ 57343 < (b0 - 224) * 4096 + (b1 - 128) * 64 + b2 - 128)
     then ((b0 - 224)*4096+(b1 - 128)*64+b2 - 128,3) else (0,0))
  else (0,0)
def okN (c k:Nat):Bool:=decide (¬ (c=65533∧k=1)∧32≤c∧¬ (127≤c∧c≤159)∧c≤65535)
theorem okN_true {c k:Nat}:okN c k=true↔(¬ (c=65533∧k=1)∧32≤c∧¬ (127≤c∧c≤159)∧c≤65535):=by unfold okN;exact decide_eq_true_iff
theorem okN_false {c k:Nat}:okN c k=false↔¬ (¬ (c=65533∧k=1)∧32≤c∧¬ (127≤c∧c≤159)∧c≤65535):=by rw[← okN_true];simp
theorem rdecN_eq (n b0 b1 b2 b3:Nat) (h0:b0<256) (h1:b1<256) (h2:b2<256) (_h3:b3<256) :
  rdecN n b0 b1 b2=if okN (decodeN n b0 b1 b2 b3).1 (decodeN n b0 b1 b2 b3).2=true then decodeN n b0 b1 b2 b3 else (0,0):=by
 by_cases ha:b0<128
 ·have e:decodeN n b0 b1 b2 b3=(b0,1):=by simp[decodeN,ha]
  rw[e]
  simp only[okN_true]
  unfold rdecN
  repeat' split
  all_goals first | rfl | (exfalso;omega)
 ·by_cases hb:b0 / 32=6
  ·have e:decodeN n b0 b1 b2 b3=if 1<n∧b1 / 64=2 then (if b0 % 32*64+b1 % 64 ≥ 128 then (b0 % 32*64+b1 % 64,2) else (65533,1)) else (65533,1):=by
    unfold decodeN
    rw[if_neg ha]
    by_cases hc:1<n∧b1 / 64=2
    ·rw[if_pos ⟨hb,hc⟩,if_pos hc]
    ·rw[if_neg (by omega),if_neg (by omega),if_neg (by omega),if_neg hc]
   rw[e]
   simp only[okN_true]
   unfold rdecN
   repeat' split
   all_goals first | rfl | (exfalso;omega) | (simp only[Prod.mk.injEq,and_true];omega) | (simp at *;omega)
  ·by_cases hd:b0 / 16=14
   ·have e:decodeN n b0 b1 b2 b3=if (1<n∧b1 / 64=2)∧(2<n∧b2 / 64=2) then (if b0 % 16*4096+b1 % 64*64+b2 % 64 ≥ 2048∧(b0 % 16*4096+b1 % 64*64+b2 % 64<55296∨57344≤b0 % 16*4096+b1 % 64*64+b2 % 64) then (b0 % 16*4096+b1 % 64*64+b2 % 64,3) else (65533,1)) else (65533,1):=by
     unfold decodeN
     rw[if_neg ha,if_neg (by omega)]
     by_cases hc:(1<n∧b1 / 64=2)∧(2<n∧b2 / 64=2)
     ·rw[if_pos ⟨hd,hc⟩,if_pos hc]
      by_cases hx:b0 % 16*4096+b1 % 64*64+b2 % 64 ≥ 2048∧(b0 % 16*4096+b1 % 64*64+b2 % 64<55296∨57344≤b0 % 16*4096+b1 % 64*64+b2 % 64)
      ·rw[if_pos (by omega),if_pos hx]
      ·rw[if_neg (by omega),if_neg hx]
     ·rw[if_neg (by omega),if_neg (by omega),if_neg hc]
    rw[e]
    simp only[okN_true]
    unfold rdecN
    repeat' split
    all_goals first | rfl | (exfalso;omega) | (simp only[Prod.mk.injEq,and_true];omega) | (simp at *;omega)
   ·have e:rdecN n b0 b1 b2=(0,0):=by
     unfold rdecN
     rw[if_neg (by omega),if_neg (by omega),if_neg (by omega)]
    have e2:okN (decodeN n b0 b1 b2 b3).1 (decodeN n b0 b1 b2 b3).2=false:=by
     unfold decodeN
     rw[if_neg ha,if_neg (by omega),if_neg (by omega)]
     rw[okN_false]
     repeat' split
     all_goals first | omega | simp
    rw[e,e2]
    simp
def rdec (l:List UInt8):Nat × Nat:=rdecN l.length (l.getD 0 0).toNat (l.getD 1 0).toNat (l.getD 2 0).toNat
theorem rdec_eq (l:List UInt8):rdec l=if okN (decodeL l).1 (decodeL l).2=true then decodeL l else (0,0):=by
 unfold rdec
 rw[decodeL_N]
 exact rdecN_eq _ _ _ _ _ (DN _) (DN _) (DN _) (DN _)
theorem rdec_good {l:List UInt8} (h:(rdec l).2≠0):decodeL l=rdec l∧okN (decodeL l).1 (decodeL l).2=true:=by
 rw[rdec_eq]at h ⊢
 split
 ·rename_i hk
  exact⟨rfl,hk⟩
 ·rename_i hk
  rw[if_neg hk]at h
  exact absurd rfl h
theorem rdec_bad {l:List UInt8} (h:(rdec l).2=0):rdec l=(0,0)∧okN (decodeL l).1 (decodeL l).2=false:=by
 have hw:=decodeL_width l
 rw[rdec_eq]at h ⊢
 split
 ·rename_i hk
  rw[if_pos hk]at h
  omega
 ·rename_i hk
  exact⟨rfl,by simpa using hk⟩
theorem rdecN_le (n b0 b1 b2:Nat) (hn:1≤n):(rdecN n b0 b1 b2).2≤n∧(rdecN n b0 b1 b2).2≤3∧(rdecN n b0 b1 b2).1≤65535:=by
 unfold rdecN
 repeat' split
 all_goals (simp only;omega)
theorem rdec_le {l:List UInt8} (h:l≠[]):(rdec l).2≤l.length:=by
 have:0<l.length:=BV.2 h
 exact (rdecN_le _ _ _ _ (by omega)).1
theorem rdec_rune (l:List UInt8):(rdec l).1≤65535:=by
 unfold rdec rdecN
 repeat' split
 all_goals (simp only;omega)
def wid (l:List UInt8):Nat:=max (rdec l).2 1
theorem wid_pos (l:List UInt8):1≤wid l:=by unfold wid;omega
theorem wid_le {l:List UInt8} (h:l≠[]):wid l≤l.length:=by
 have:=rdec_le h
 have:0<l.length:=BV.2 h
 unfold wid;omega
variable {σ : Type}
def foldR (f:σ→List UInt8→Nat→σ):Nat→σ→List UInt8→σ
 | 0,st,_=>st
 | n+1,st,l=>if l=[] then st else foldR f n (f st (l.take (wid l)) (rdec l).1) (l.drop (wid l))
def foldT (f:σ→List UInt8→Nat→σ) (st:σ) (l:List UInt8):σ:=foldR f l.length st l
theorem foldR_nil (f:σ→List UInt8→Nat→σ) (n:Nat) (st:σ):foldR f n st []=st:=by cases n <;> simp[foldR]
theorem foldR_fuel (f:σ→List UInt8→Nat→σ):∀ (n m:Nat) (st:σ) (l:List UInt8),l.length≤n→l.length≤m→foldR f n st l=foldR f m st l
 | 0,m,st,l,hn,_=>by
  have:l=[]:=Aw (by omega)
  subst this
  rw[foldR_nil,foldR_nil]
 | n+1,0,st,l,_,hm=>by
  have:l=[]:=Aw (by omega)
  subst this
  rw[foldR_nil,foldR_nil]
 | n+1,m+1,st,l,hn,hm=>by
  unfold foldR
  by_cases hne:l=[]
  ·simp[hne]
  ·have hw:=wid_pos l
   rw[if_neg hne,if_neg hne,foldR_fuel f n m _ _ (by rw[AG];omega) (by rw[AG];omega)]
theorem foldT_nil (f:σ→List UInt8→Nat→σ) (st:σ):foldT f st []=st:=foldR_nil f _ st
theorem foldT_step (f:σ→List UInt8→Nat→σ) (st:σ) {l:List UInt8} (hne:l≠[]):foldT f st l=foldT f (f st (l.take (wid l)) (rdec l).1) (l.drop (wid l)):=by
 have hl:0<l.length:=BV.2 hne
 have hw:=wid_pos l
 unfold foldT
 obtain⟨n,hn⟩:∃ n,l.length=n+1:=⟨l.length - 1,by omega⟩
 rw[hn]
 show (if l=[] then st else _)=_
 rw[if_neg hne,foldR_fuel f n _ _ _ (by rw[AG];omega) (An _)]
def vR:Nat→List UInt8→Bool
 | 0,_=>true
 | n+1,l=>if l=[] then true else if (rdec l).2=0 then false else vR n (l.drop (rdec l).2)
def valid (l:List UInt8):Bool:=vR l.length l
theorem vR_nil (n:Nat):vR n []=true:=by cases n <;> simp[vR]
theorem vR_fuel:∀ (n m:Nat) (l:List UInt8),l.length≤n→l.length≤m→vR n l=vR m l
 | 0,m,l,hn,_=>by
  have:l=[]:=Aw (by omega)
  subst this
  rw[vR_nil,vR_nil]
 | n+1,0,l,_,hm=>by
  have:l=[]:=Aw (by omega)
  subst this
  rw[vR_nil,vR_nil]
 | n+1,m+1,l,hn,hm=>by
  unfold vR
  by_cases hne:l=[]
  ·simp[hne]
  ·by_cases hz:(rdec l).2=0
   ·simp[hz]
   ·rw[if_neg hne,if_neg hne,if_neg hz,if_neg hz,vR_fuel n m _ (by rw[AG];omega) (by rw[AG];omega)]
theorem valid_step {l:List UInt8} (hne:l≠[]):valid l=if (rdec l).2=0 then false else valid (l.drop (rdec l).2):=by
 have hl:0<l.length:=BV.2 hne
 unfold valid
 obtain⟨n,hn⟩:∃ n,l.length=n+1:=⟨l.length - 1,by omega⟩
 rw[hn]
 show (if l=[] then true else _)=_
 rw[if_neg hne]
 by_cases hz:(rdec l).2=0
 ·rw[if_pos hz,if_pos hz]
 ·rw[if_neg hz,if_neg hz,vR_fuel n _ _ (by rw[AG];omega) (An _)]
theorem valid_head {l:List UInt8} (hne:l≠[]) (hv:valid l=true):(rdec l).2≠0∧decodeL l=rdec l∧wid l=(rdec l).2∧valid (l.drop (wid l))=true∧okN (rdec l).1 (rdec l).2=true:=by
 rw[valid_step hne]at hv
 by_cases hz:(rdec l).2=0
 ·rw[if_pos hz]at hv
  cases hv
 ·rw[if_neg hz]at hv
  have hw:wid l=(rdec l).2:=by unfold wid;omega
  have hg:=rdec_good hz
  exact⟨hz,hg.1,hw,by rw[hw];exact hv,by rw[← hg.1];exact hg.2⟩
def rangeOk:Nat→List UInt8→Bool
 | 0,_=>true
 | n+1,l=>if l=[] then true else if (decodeL l).1<32∨(127≤(decodeL l).1∧(decodeL l).1≤159)∨65535<(decodeL l).1 then false else rangeOk n (l.drop (decodeL l).2)
theorem rangeOk_nil (n:Nat):rangeOk n []=true:=by cases n <;> simp[rangeOk]
theorem rangeOk_fuel:∀ (n m:Nat) (l:List UInt8),l.length≤n→l.length≤m→rangeOk n l=rangeOk m l
 | 0,m,l,hn,_=>by
  have:l=[]:=Aw (by omega)
  subst this
  rw[rangeOk_nil,rangeOk_nil]
 | n+1,0,l,_,hm=>by
  have:l=[]:=Aw (by omega)
  subst this
  rw[rangeOk_nil,rangeOk_nil]
 | n+1,m+1,l,hn,hm=>by
  unfold rangeOk
  by_cases hne:l=[]
  ·simp[hne]
  ·have hw:=decodeL_width l
   rw[if_neg hne,if_neg hne,rangeOk_fuel n m _ (by rw[AG];omega) (by rw[AG];omega)]
theorem rangeOk_step {l:List UInt8} (hne:l≠[]):rangeOk l.length l=if (decodeL l).1<32∨(127≤(decodeL l).1∧(decodeL l).1≤159)∨65535<(decodeL l).1 then false else rangeOk (l.drop (decodeL l).2).length (l.drop (decodeL l).2):=by
 have hl:0<l.length:=BV.2 hne
 have hw:=decodeL_width l
 obtain⟨n,hn⟩:∃ n,l.length=n+1:=⟨l.length - 1,by omega⟩
 conv=>lhs;rw[hn]
 show (if l=[] then true else _)=_
 rw[if_neg hne,rangeOk_fuel n _ _ (by rw[AG];omega) (An _)]
theorem valid_two:∀ (n:Nat) (l:List UInt8),l.length≤n→(validD l&&rangeOk l.length l)=valid l
 | 0,l,h=>by
  have:l=[]:=Aw (by omega)
  subst this
  rfl
 | n+1,l,h=>by
  by_cases hne:l=[]
  ·subst hne;rfl
  ·have hw:=decodeL_width l
   have hl:0<l.length:=BV.2 hne
   rw[validD_step l hne,rangeOk_step hne,valid_step hne]
   by_cases hz:(rdec l).2=0
   ·have hb:=okN_false.1 (rdec_bad hz).2
    rw[if_pos hz]
    by_cases hi:(decodeL l).1=65533∧(decodeL l).2=1
    ·rw[if_pos hi];rfl
    ·rw[if_neg hi,if_pos (by omega)];simp
   ·have hg:=rdec_good hz
    have hk:=okN_true.1 hg.2
    rw[if_neg hz,if_neg hk.1,if_neg (by omega),← hg.1]
    exact valid_two n _ (by rw[AG];omega)
def blank (c:Nat):Bool:=c == 32||c == 160
def cleanStep (st:List UInt8 × Bool) (p:List UInt8) (c:Nat):List UInt8 × Bool :=
 if blank c=true then (st.1,true) else ((if st.2=true∧st.1≠[] then st.1++[32] else st.1)++p,false)
def clean (l:List UInt8):List UInt8:=(foldT cleanStep ([],false) l).1
def sofar (s:ByteArray) (acc:List (Nat × Nat)) (st:Option Nat) (pos:Nat):List UInt8 :=
 join ((match st with | some a=>acc++[(a,pos)] | none=>acc).map fun x:Nat × Nat=>(s.extract x.1 x.2).data.toList) [32]
theorem join_snoc (xs:List (List UInt8)) (y sep:List UInt8) (h:xs≠[]):join (xs++[y]) sep=join xs sep++sep++y:=by
 cases xs with
 | nil=>exact absurd rfl h
 | cons x r =>
  rw[CG,join_cons,join_cons]
  simp[joinTail]
theorem join_more (xs:List (List UInt8)) (y p sep:List UInt8):join (xs++[y++p]) sep=join (xs++[y]) sep++p:=by
 cases xs with
 | nil=>simp[join_one]
 | cons x r=>rw[join_snoc _ _ _ (by simp),join_snoc _ _ _ (by simp)];simp[List.append_assoc]
theorem extract_more (s:ByteArray) (a pos k:Nat) (h:a≤pos):(s.extract a (pos+k)).data.toList=(s.extract a pos).data.toList++(s.data.toList.drop pos).take k:=by
 rw[extract_data,extract_data]
 have e:(s.data.toList.drop a).take (pos+k - a)=(s.data.toList.drop a).take ((pos - a)+k):=by congr 1;omega
 rw[e,List.take_add,BT,show a+(pos - a)=pos by omega]
theorem extract_none (s:ByteArray) (a:Nat):(s.extract a a).data.toList=[]:=by rw[extract_data];simp
theorem extract_ne (s:ByteArray) (a b:Nat) (h:a<b) (h2:b≤s.size):(s.extract a b).data.toList≠[]:=by
 rw[extract_data]
 intro h0
 have:=congrArg Cd h0
 rw[List.length_take,AG,← size_eq]at this
 simp at this
 omega
theorem join_ne (x:List UInt8) (r:List (List UInt8)) (sep:List UInt8) (h:x≠[]):join (x::r) sep≠[]:=by
 rw[join_cons]
 simp[h]
theorem clean_go (s:ByteArray):∀ (f pos:Nat) (st:Option Nat) (acc:List (Nat × Nat)) (out:List UInt8) (gap:Bool),
  pos≤s.size→s.size≤pos+f→valid (s.data.toList.drop pos)=true→out=sofar s acc st pos →
  (st=A4→gap=true∨out=[])→(∀ a,st=A2 a→gap=false∧a<pos)→(∀ x∈acc,x.1<x.2∧x.2≤s.size) →
  sofar s (closeSpans s (spansFromP blank s f pos st acc)) A4 s.size=(foldT cleanStep (out,gap) (s.data.toList.drop pos)).1
 | f,pos,st,acc,out,gap,hp,hf,hv,ho,hn,hs,ha=>by
  by_cases hlt:pos<s.size
  ·obtain⟨g,rfl⟩:∃ g,f=g+1:=⟨f - 1,by omega⟩
   have hne:s.data.toList.drop pos≠[]:=by
    intro h0
    have:=congrArg Cd h0
    rw[AG,← size_eq]at this
    simp at this
    omega
   obtain⟨hz,hd,hw,hv2,_⟩:=valid_head hne hv
   have hdec:Utf8.decode s pos=rdec (s.data.toList.drop pos):=by rw[← decodeL_drop,hd]
   have hle:wid (s.data.toList.drop pos)≤s.size - pos:=by
    have:=wid_le hne
    rw[AG,← size_eq]at this
    omega
   have hwp:=wid_pos (s.data.toList.drop pos)
   rw[foldT_step cleanStep _ hne]
   simp only[spansFromP,if_pos hlt,hdec]
   rw[← hw]
   rw[BT]at hv2 ⊢
   generalize hk:wid (s.data.toList.drop pos)=k at *
   generalize hc:(rdec (s.data.toList.drop pos)).1=c at *
   cases hb:blank c with
   | true =>
    simp only[if_true]
    have e:cleanStep (out,gap) ((s.data.toList.drop pos).take k) c=(out,true):=by simp[cleanStep,hb]
    rw[e]
    cases st with
    | none=>exact clean_go s g (pos+k) A4 acc out true (by omega) (by omega) hv2 ho (fun _=>.inl rfl) (fun a h=>by cases h) ha
    | some a =>
     have:=hs a rfl
     exact clean_go s g (pos+k) A4 (acc++[(a,pos)]) out true (by omega) (by omega) hv2 ho (fun _=>.inl rfl) (fun a h=>by cases h)
      (fun x hx=>by
       rcases List.mem_append.1 hx with h | h
       ·exact ha x h
       ·simp at h;subst h;exact⟨by simp;omega,by simp;omega⟩)
   | false =>
    simp only[Bool.false_eq_true,if_false]
    cases st with
    | some a =>
     have h1:=hs a rfl
     have e:cleanStep (out,gap) ((s.data.toList.drop pos).take k) c=(out++(s.data.toList.drop pos).take k,false):=by simp[cleanStep,hb,h1.1]
     rw[e]
     refine clean_go s g (pos+k) (A2 a) acc _ false (by omega) (by omega) hv2 ?_ (fun h=>by cases h) (fun b h=>by cases h;exact⟨rfl,by omega⟩) ha
     rw[ho]
     unfold sofar
     simp only[AS,Cf,Ee]
     rw[extract_more s a pos k (by omega),join_more]
    | none =>
     have e:cleanStep (out,gap) ((s.data.toList.drop pos).take k) c=((if gap=true∧out≠[] then out++[32] else out)++(s.data.toList.drop pos).take k,false):=by simp[cleanStep,hb]
     rw[e]
     refine clean_go s g (pos+k) (A2 pos) acc _ false (by omega) (by omega) hv2 ?_ (fun h=>by cases h) (fun b h=>by cases h;exact⟨rfl,by omega⟩) ha
     unfold sofar
     simp only[AS,Cf,Ee]
     have ep:(s.extract pos (pos+k)).data.toList=(s.data.toList.drop pos).take k:=by
      rw[extract_more s pos pos k (An _),extract_none];rfl
     rw[ep]
     cases hacc:acc with
     | nil =>
      have:out=[]:=by rw[ho,hacc];rfl
      rw[this]
      simp[join_one]
     | cons x r =>
      have hx:=ha x (by rw[hacc];simp)
      have hon:out≠[]:=by
       rw[ho,hacc]
       exact join_ne _ _ _ (extract_ne s _ _ hx.1 hx.2)
      have hg:gap=true:=by
       rcases hn rfl with h | h
       ·exact h
       ·exact absurd h hon
      rw[if_pos ⟨hg,hon⟩,join_snoc _ _ _ (by simp),ho,hacc]
      rfl
  ·have hps:pos=s.size:=by omega
   rw[spansFromP_end blank s f _ _ _ hlt]
   have hnil:s.data.toList.drop pos=[]:=List.drop_eq_nil_of_le (by rw[← size_eq];omega)
   rw[hnil,foldT_nil,ho]
   cases st with
   | none=>simp[closeSpans,sofar]
   | some a=>simp[closeSpans,sofar,hps]
 termination_by f=>f
theorem clean_eq (s:ByteArray) (hv:valid s.data.toList=true):join ((goFieldsP blank s).map (·.data.toList)) [32]=clean s.data.toList:=by
 have h:=clean_go s s.size 0 A4 [] [] false (Nat.zero_le _) (by omega) (by simpa using hv) rfl (fun _=>.inr rfl) (fun a h=>by cases h) (fun x hx=>by cases hx)
 rw[List.drop_zero]at h
 unfold clean
 rw[← h]
 unfold sofar goFieldsP spansOfP
 rw[List.map_map]
 rfl
end Tx
namespace Nm
open Go.Lib
def num (l:List UInt8):Option Nat :=
 if l.length<1∨9<l.length∨(l.head?=A2 48∧1<l.length) then A4 else decFrom 0 l
theorem decFrom_append:∀ (a b:List UInt8) (acc:Nat),decFrom acc (a++b)=(decFrom acc a).bind fun x=>decFrom x b
 | [],b,acc=>rfl
 | c::a,b,acc=>by
  simp only[CG,decFrom]
  cases digitVal c with
  | none=>rfl
  | some d=>exact decFrom_append a b _
theorem digitVal_some {c:UInt8}{d:Nat} (h:digitVal c=A2 d):d<10∧c.toNat=48+d:=by
 unfold digitVal at h
 split at h
 ·injection h with h
  omega
 ·cases h
theorem digitVal_of {d:Nat} (h:d<10):digitVal (DG (48+d))=A2 d:=by
 have e:(DG (48+d)).toNat=48+d:=by rw[M1];omega
 unfold digitVal
 rw[e,if_pos (by omega)]
 congr 1
 omega
theorem digit_eq {c:UInt8}{d:Nat} (h:digitVal c=A2 d):c=DG (48+d):=by
 obtain⟨h1,h2⟩:=digitVal_some h
 apply UInt8.toNat.inj
 rw[h2,M1]
 omega
theorem decFrom_lt:∀ (l:List UInt8) (acc n:Nat),decFrom acc l=A2 n→n<(acc+1)*10 ^ l.length
 | [],acc,n,h=>by
  simp only[decFrom,Jc]at h
  simp
  omega
 | c::r,acc,n,h=>by
  simp only[decFrom]at h
  cases hd:digitVal c with
  | none=>simp[hd]at h
  | some d =>
   rw[hd]at h
   have h1:=decFrom_lt r _ n h
   have h2:=(digitVal_some hd).1
   have h3:(acc*10+d+1)*10 ^ r.length≤(acc+1)*10*10 ^ r.length:=Nat.mul_le_mul_right _ (by omega)
   rw[AO,Nat.pow_succ,Nat.mul_comm (10 ^ r.length) 10,← Nat.mul_assoc]
   omega
theorem decFrom_ge:∀ (l:List UInt8) (acc n:Nat),decFrom acc l=A2 n→acc≤n
 | [],acc,n,h=>by
  simp only[decFrom,Jc]at h
  omega
 | c::r,acc,n,h=>by
  simp only[decFrom]at h
  cases hd:digitVal c with
  | none=>simp[hd]at h
  | some d =>
   rw[hd]at h
   have h1:=decFrom_ge r _ n h
   omega
theorem num_lt {l:List UInt8}{n:Nat} (h:num l=A2 n):n<1000000000∧l.length≤9:=by
 unfold num at h
 split at h
 ·cases h
 ·rename_i hc
  have h1:=decFrom_lt l 0 n h
  have h2:10 ^ l.length≤10 ^ 9:=Nat.pow_le_pow_right (by omega) (by omega)
  exact⟨by omega,by omega⟩
theorem decFrom_digits:∀ (n:Nat),decFrom 0 (decDigits n)=A2 n:=by
 intro n
 induction n using Lw with
 | _ n ih =>
  rw[decDigits]
  split
  ·rename_i h
   simp only[decFrom,digitVal_of h]
   rw[Nat.zero_mul,Nat.zero_add]
  ·rename_i h
   rw[decFrom_append,ih (n / 10) (by omega)]
   simp only[Gp,decFrom,digitVal_of (show n % 10<10 by omega)]
   congr 1
   omega
theorem digits_ne (n:Nat):decDigits n≠[]:=by
 rw[decDigits]
 split <;> simp
theorem digits_head:∀ (n:Nat),1≤n→(decDigits n).head?≠A2 48:=by
 intro n
 induction n using Lw with
 | _ n ih =>
  intro h1
  rw[decDigits]
  split
  ·rename_i h
   simp only[List.head?_cons]
   intro h0
   injection h0 with h0
   have:=congrArg UInt8.toNat h0
   rw[M1]at this
   have e:(48:UInt8).toNat=48:=rfl
   omega
  ·rename_i h
   have hi:=ih (n / 10) (by omega) (by omega)
   have hn:=digits_ne (n / 10)
   cases hd:decDigits (n / 10) with
   | nil=>exact absurd hd hn
   | cons a t =>
    rw[hd]at hi
    simpa using hi
theorem num_digits (n:Nat) (h:(decDigits n).length≤9):num (decDigits n)=A2 n:=by
 unfold num
 have h0:=BV.2 (digits_ne n)
 rw[if_neg,decFrom_digits]
 rintro (h1 | h1 | h1)
 ·omega
 ·omega
 ·by_cases hn:1≤n
  ·exact digits_head n hn h1.1
  ·have:n=0:=by omega
   subst this
   have h2:=h1.2
   rw[decDigits,dif_pos (by omega)]at h2
   simp at h2
theorem digits_of:∀ (k:Nat) (l:List UInt8) (n:Nat),l.length=k→l≠[]→(l.head?=A2 48→l.length≤1)→decFrom 0 l=A2 n→decDigits n=l
 | 0,l,n,hk,hne,_,_=>absurd (Aw hk) hne
 | k+1,l,n,hk,hne,hz,h=>by
  obtain⟨r,b,rfl⟩:∃ r b,l=r++[b]:=⟨l.dropLast,l.getLast hne,(List.dropLast_concat_getLast hne).symm⟩
  rw[decFrom_append]at h
  cases hr:decFrom 0 r with
  | none=>rw[hr]at h;cases h
  | some m =>
   rw[hr]at h
   simp only[Gp,decFrom]at h
   cases hd:digitVal b with
   | none=>rw[hd]at h;cases h
   | some d =>
    rw[hd]at h
    injection h with h
    have hb:=digitVal_some hd
    by_cases hrn:r=[]
    ·subst hrn
     simp only[decFrom,Jc]at hr
     have hn:n=d:=by omega
     rw[decDigits,dif_pos (by omega),hn,digit_eq hd]
     rfl
    ·have hr48:r.head?=A2 48→False:=by
      intro h48
      have hh:(r++[b]).head?=A2 48:=by
       cases r with
       | nil=>exact absurd rfl hrn
       | cons a t=>simpa using h48
      have h5:=hz hh
      rw[Af]at h5
      have h6:0<r.length:=BV.2 hrn
      simp only[AO,List.length_nil]at h5
      omega
     have hi:=digits_of k r m (by rw[Af]at hk;simp at hk;omega) hrn (fun h48=>(hr48 h48).elim) hr
     have hm:1≤m:=by
      rcases Cv m 1 with h0 | h0
      ·have hm0:m=0:=by omega
       subst hm0
       exfalso
       apply hr48
       rw[← hi,decDigits,dif_pos (by omega)]
       rfl
      ·exact h0
     rw[decDigits,dif_neg (by omega),show n / 10=m by omega,show n % 10=d by omega,hi,digit_eq hd]
theorem digits_num {l:List UInt8}{n:Nat} (h:num l=A2 n):decDigits n=l:=by
 unfold num at h
 split at h
 ·cases h
 ·rename_i hc
  refine digits_of l.length l n rfl (fun h0=>?_) (fun h0=>?_) h
  ·subst h0
   simp at hc
  ·rcases Cv 1 l.length with h1 | h1
   ·exact absurd (.inr (.inr ⟨h0,h1⟩)) hc
   ·exact h1
theorem parse_of:∀ (l:List UInt8) (acc n:Nat),decFrom acc l=A2 n→n<1000000000→parseUint10 acc l=.ok n
 | [],acc,n,h,_=>by
  simp only[decFrom,Jc]at h
  rw[h];rfl
 | c::r,acc,n,h,hn=>by
  simp only[decFrom]at h
  cases hd:digitVal c with
  | none=>simp[hd]at h
  | some d =>
   rw[hd]at h
   have h1:=decFrom_ge r _ n h
   have h2:=digitVal_some hd
   simp only[parseUint10]
   rw[if_pos (by omega),if_neg (by omega),show c.toNat - 48=d by omega,if_neg (by omega)]
   exact parse_of r _ n h hn
theorem atoi_num {l:List UInt8}{n:Nat} (h:num l=A2 n):atoiAll l=.ok (n:Int):=by
 have hb:=num_lt h
 unfold num at h
 split at h
 ·cases h
 ·rename_i hc
  cases l with
  | nil=>simp at hc
  | cons c r =>
   have hp:=parse_of (c::r) 0 n h hb.1
   have hcd:∃ d,digitVal c=A2 d:=by
    simp only[decFrom]at h
    cases hd:digitVal c with
    | none=>simp[hd]at h
    | some d=>exact⟨d,rfl⟩
   obtain⟨d,hd⟩:=hcd
   have hd2:=digitVal_some hd
   unfold atoiAll
   simp only
   rw[if_neg (by omega)]
   unfold parseMag
   rw[if_neg (by simp),hp]
   simp only
   rw[if_neg (by omega),if_neg (by omega),if_neg (by omega)]
theorem num_of_atoi {l:List UInt8}{v:Int} (hv:0≤v) (hl:l.length≤9) (h:itoa v=l):num l=A2 v.toNat:=by
 unfold itoa at h
 rw[if_neg (by omega)]at h
 rw[← h]
 exact num_digits _ (by rw[h];exact hl)
theorem itoa_num {l:List UInt8}{n:Nat} (h:num l=A2 n):itoa (n:Int)=l:=by
 unfold itoa
 rw[if_neg (by omega),Int.toNat_natCast]
 exact digits_num h
end Nm
namespace Tx
theorem getD_at (s:ByteArray) (j:Nat) (h:j<s.size):s.data.toList.getD j 0=s[j]'h:=by
 have h':j<s.data.toList.length:=by rw[← Go.Lib.size_eq];exact h
 rw[List.getD_eq_getElem?_getD,List.getElem?_eq_getElem h']
 rfl
theorem below_drewN {B:Nat}{a w:World} (h:Below B a w) (q:Nat):Below B a (w.drewN q):=⟨h.os,h.tape,h.output,h.size,h.block⟩
end Tx
namespace Sp
open Go.Lib
def cut (c:UInt8):List UInt8→Option (List UInt8 × List UInt8)
 | []=>A4
 | b::t=>if b=c then A2 ([],t) else match cut c t with
  | some (x,y)=>A2 (b::x,y)
  | none=>A4
theorem cut_len {c:UInt8}:∀ {l a b:List UInt8},cut c l=A2 (a,b)→l.length=a.length+1+b.length
 | [],a,b,h=>by simp[cut]at h
 | x::t,a,b,h=>by
  simp only[cut]at h
  split at h
  ·simp at h
   obtain⟨rfl,rfl⟩:=h
   simp
   omega
  ·cases ht:cut c t with
   | none=>rw[ht]at h;simp at h
   | some p =>
    obtain⟨x',y'⟩:=p
    rw[ht]at h
    simp at h
    obtain⟨rfl,rfl⟩:=h
    have:=cut_len ht
    simp
    omega
theorem cut_eq {c:UInt8}:∀ {l a b:List UInt8},cut c l=A2 (a,b)→l=a++c::b∧c ∉ a
 | [],a,b,h=>by simp[cut]at h
 | x::t,a,b,h=>by
  simp only[cut]at h
  split at h
  ·rename_i hx
   simp at h
   obtain⟨rfl,rfl⟩:=h
   simp[hx]
  ·rename_i hx
   cases ht:cut c t with
   | none=>rw[ht]at h;simp at h
   | some p =>
    obtain⟨x',y'⟩:=p
    rw[ht]at h
    simp at h
    obtain⟨rfl,rfl⟩:=h
    obtain⟨h1,h2⟩:=cut_eq ht
    refine⟨by rw[h1];rfl,?_⟩
    simp only[List.mem_cons,not_or]
    exact⟨fun e=>hx e.symm,h2⟩
theorem indexByte_cut (c:UInt8):∀ (l:List UInt8),(indexByte l c=-1∧cut c l=A4)∨∃ i:Nat,indexByte l c=i∧cut c l=A2 (l.take i,l.drop (i+1))
 | []=>.inl ⟨rfl,rfl⟩
 | b::t=>by
  simp only[indexByte,cut]
  by_cases hb:b=c
  ·subst hb
   right
   exact⟨0,by simp,by simp⟩
  ·have hb':(b == c)=false:=by simpa using hb
   rw[hb',if_neg hb]
   simp only[Bool.false_eq_true,if_false]
   rcases indexByte_cut c t with⟨h1,h2⟩ | ⟨i,h1,h2⟩
   ·left
    rw[h1,h2]
    simp
   ·right
    refine⟨i+1,?_,?_⟩
    ·rw[h1]
     have:¬ ((i:Int) == -1)=true:=by simp
     rw[if_neg this]
     rfl
    ·rw[h2]
     simp
end Sp
end Go.Proofs.YtlakomilichhnaaGreatDoor
