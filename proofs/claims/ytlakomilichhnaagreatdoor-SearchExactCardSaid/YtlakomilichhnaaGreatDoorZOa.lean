/- Texts of this seat's, what the claim needs of them. -/
import Derived.Test.YtlakomilichhnaaGreatDoorZOt
import Derived.Lib.SlicesCompact
namespace Go.Proofs.YtlakomilichhnaaGreatDoor
set_option maxRecDepth 100000
open Go.RowKit
open Bool renaming false_eq_true→Dq
open List renaming cons_append→CG,drop_drop→BT,drop_eq_nil_of_le→AB,eq_nil_of_length_eq_zero→Aw,getD_eq_getElem?_getD→Bc,getElem?_eq_getElem→A7,length→Cd,length_append→Af,length_cons→AO,length_drop→AG,length_map→At,length_nil→BL,length_pos_iff→BV,length_take→Az,mem_append→AZ,mem_cons→B9,mem_filter→B8,mem_iff_getElem→Hu,mem_map→B3,mem_of_find?_eq_some→Lz,mem_range→F8,pairwise_cons→DY
open Nat renaming le_refl→An,lt_or_ge→Cv,succ_mul→Hv
open Option renaming none→A4,some→A2
open Tx renaming rdec→Bv,valid→AL
namespace Rc
open Go.Lib
abbrev By:=List UInt8
structure Fl where
 tag:ByteArray
 ind:ByteArray
 subs:List (UInt8 × ByteArray)
 auth:Int
def hasCode (codes:By) (c:UInt8):Bool:=codes.isEmpty||codes.contains c
def allV (l:List (UInt8 × ByteArray)) (codes:By):List ByteArray:=(l.filter fun x=>hasCode codes x.1).map (·.2)
def bys (l:List ByteArray):List By:=l.map (·.data.toList)
def plain (l:List (UInt8 × ByteArray)) (codes:By):By:=join (bys (allV l codes)) [32]
def get (l:List (UInt8 × ByteArray)) (c:UInt8):Option ByteArray:=(l.find? fun x=>x.1 == c).map (·.2)
def tagIs (t:By) (f:Fl):Bool:=f.tag.data.toList == t
def first (fs:List Fl) (t:By):Option Fl:=fs.find? (tagIs t)
def title (fs:List Fl):By:=match first fs [50,52,53] with
 | none=>[]
 | some f=>Tx.clean (plain f.subs [97,98])
def authorT (fs:List Fl) (t:By):Option ByteArray:=(first fs t).bind fun f=>get f.subs 97
def author (fs:List Fl):By :=
 match authorT fs [49,48,48] with
 | some v=>v.data.toList
 | none=>match authorT fs [49,49,48] with
  | some v=>v.data.toList
  | none=>match authorT fs [55,48,48] with
   | some v=>v.data.toList
   | none=>[]
def yr:Nat→Nat→By→Nat
 | n,d,[]=>if d=4∧1000≤n∧n≤2199 then n else 0
 | n,d,c::r=>if 48≤c.toNat∧c.toNat≤57 then yr (if d+1≤4 then n*10+(c.toNat - 48) else n) (d+1) r
  else if d=4∧1000≤n∧n≤2199 then n else yr 0 0 r
def yearIn (s:By):Nat:=yr 0 0 s
def firstNZ:List Nat→Nat
 | []=>0
 | n::r=>if n=0 then firstNZ r else n
def pubTag (f:Fl):Bool:=tagIs [50,54,48] f||tagIs [50,54,52] f
def yearF (l:List ByteArray):Nat:=firstNZ (l.map fun x=>yearIn x.data.toList)
def year (fs:List Fl):Nat:=firstNZ (fs.map fun f=>if pubTag f then yearF (allV f.subs [99]) else 0)
def Gd (f:Fl):Prop:=f.subs.length≤1000∧∀ x∈f.subs,x.2.size≤100000∧AL x.2.data.toList=true
theorem lens_le:∀ (l:List By) (M:Nat),(∀ x∈l,x.length≤M)→lens l≤l.length*M
 | [],M,_=>by simp[lens]
 | x::r,M,h=>by
  have h1:=h x (by simp)
  have h2:=lens_le r M (fun y hy=>h y (by simp[hy]))
  have e:lens (x::r)=x.length+lens r:=by simp[lens]
  rw[e,AO,Hv]
  omega
theorem join_le (l:List By) (sep:By) (M:Nat) (h:∀ x∈l,x.length≤M):(join l sep).length≤l.length*(M+sep.length):=by
 cases l with
 | nil=>simp[join_nil]
 | cons x r =>
  have h1:=h x (by simp)
  have h2:=lens_le r M (fun y hy=>h y (by simp[hy]))
  rw[join_cons,Af,joinTail_length,AO,Hv,Nat.mul_add,Nat.mul_comm sep.length]
  omega
theorem allV_mem {l:List (UInt8 × ByteArray)}{c:By}{x:ByteArray} (h:x∈allV l c):∃ y∈l,y.2=x:=by
 unfold allV at h
 rw[B3]at h
 obtain⟨y,hy,rfl⟩:=h
 exact⟨y,(B8.1 hy).1,rfl⟩
theorem allV_len (l:List (UInt8 × ByteArray)) (c:By):(allV l c).length≤l.length:=by
 unfold allV
 rw[At]
 exact List.length_filter_le _ _
theorem Gd.all {f:Fl} (h:Gd f) (c:By):(allV f.subs c).length≤1000∧∀ x∈bys (allV f.subs c),x.length≤100000∧AL x=true:=by
 refine⟨Nat.le_trans (allV_len _ _) h.1,fun x hx=>?_⟩
 unfold bys at hx
 rw[B3]at hx
 obtain⟨y,hy,rfl⟩:=hx
 obtain⟨z,hz,rfl⟩:=allV_mem hy
 have:=h.2 z hz
 rw[← size_eq]
 exact this
theorem Gd.join_le {f:Fl} (h:Gd f) (c sep:By) (hs:sep.length≤10):(join (bys (allV f.subs c)) sep).length≤200000000:=by
 have h1:=h.all c
 have h2:=Rc.join_le (bys (allV f.subs c)) sep 100000 (fun x hx=>(h1.2 x hx).1)
 have h3:(bys (allV f.subs c)).length≤1000:=by unfold bys;rw[At];exact h1.1
 have h4:(bys (allV f.subs c)).length*(100000+sep.length)≤1000*(100000+10):=Nat.mul_le_mul h3 (by omega)
 omega
theorem Gd.plain_le {f:Fl} (h:Gd f) (c:By):(plain f.subs c).length≤200000000:=h.join_le c [32] (by simp)
theorem getD_app {a:By} (b:By) {j:Nat} (h:j<a.length):(a++b).getD j 0=a.getD j 0:=by
 rw[Bc,Bc,List.getElem?_append_left h]
theorem decodeN_more (n m b0 b1 b2:Nat) (c1 c2:Nat) (hn:n≤m) (h1:1<n→c1=b1) (h2:2<n→c2=b2) (hk:(Tx.rdecN n b0 b1 b2).2≠0):Tx.rdecN m b0 c1 c2=Tx.rdecN n b0 b1 b2:=by
 unfold Tx.rdecN at hk ⊢
 by_cases ha:32≤b0∧b0<127
 ·simp only[if_pos ha]
 ·simp only[if_neg ha]at hk ⊢
  by_cases hb:194≤b0∧b0<224∧1<n∧128≤b1∧b1<192
  ·have e:=h1 hb.2.2.1
   subst e
   rw[if_pos hb,if_pos ⟨hb.1,hb.2.1,by omega,hb.2.2.2.1,hb.2.2.2.2⟩]
  ·rw[if_neg hb]at hk ⊢
   by_cases hc:224≤b0∧b0<240∧2<n∧128≤b1∧b1<192∧128≤b2∧b2<192
   ·have e:=h1 (by omega)
    subst e
    have e2:=h2 hc.2.2.1
    subst e2
    rw[if_pos hc,if_neg (by omega),if_pos ⟨hc.1,hc.2.1,by omega,hc.2.2.2⟩]
   ·rw[if_neg hc]at hk
    exact absurd rfl hk
theorem rdec_append {a:By} (b:By) (hne:a≠[]) (h:(Bv a).2≠0):Bv (a++b)=Bv a:=by
 have hl:0<a.length:=BV.2 hne
 unfold Bv at h ⊢
 have e0:(a++b).getD 0 0=a.getD 0 0:=by rw[getD_app b hl]
 rw[e0]
 exact decodeN_more _ _ _ _ _ _ _ (by rw[Af];omega) (fun h1=>by rw[getD_app b h1]) (fun h1=>by rw[getD_app b h1]) h
theorem valid_append:∀ (n:Nat) (a b:By),a.length≤n→AL a=true→AL (a++b)=AL b
 | 0,a,b,hn,_=>by
  have:a=[]:=Aw (by omega)
  subst this
  rfl
 | n+1,a,b,hn,hv=>by
  by_cases hne:a=[]
  ·subst hne;rfl
  ·obtain⟨hz,_,hw,hv2,_⟩:=Tx.valid_head hne hv
   have hle:=Tx.rdec_le hne
   rw[Tx.valid_step (by simp[hne]),rdec_append b hne hz,if_neg hz,List.drop_append_of_le_length hle]
   rw[hw]at hv2
   exact valid_append n _ b (by rw[AG];omega) hv2
theorem valid_app {a b:By} (ha:AL a=true) (hb:AL b=true):AL (a++b)=true:=by rw[valid_append a.length a b (An _) ha,hb]
theorem valid_joinTail:∀ (l:List By) (sep:By),(∀ x∈l,AL x=true)→AL sep=true→AL (joinTail sep l)=true
 | [],sep,_,_=>rfl
 | x::r,sep,h,hs=>by
  have e:joinTail sep (x::r)=(sep++x)++joinTail sep r:=by simp[joinTail]
  rw[e]
  exact valid_app (valid_app hs (h x (by simp))) (valid_joinTail r sep (fun y hy=>h y (by simp[hy])) hs)
theorem valid_join (l:List By) (sep:By) (h:∀ x∈l,AL x=true) (hs:AL sep=true):AL (join l sep)=true:=by
 cases l with
 | nil=>rfl
 | cons x r=>rw[join_cons];exact valid_app (h x (by simp)) (valid_joinTail r sep (fun y hy=>h y (by simp[hy])) hs)
theorem Gd.plain_valid {f:Fl} (h:Gd f) (c:By):AL (plain f.subs c)=true:=valid_join _ _ (fun x hx=>((h.all c).2 x hx).2) (by decide)
theorem first_mem {fs:List Fl}{t:By}{f:Fl} (h:first fs t=A2 f):f∈fs:=Lz h
theorem get_mem {l:List (UInt8 × ByteArray)}{c:UInt8}{v:ByteArray} (h:get l c=A2 v):∃ x∈l,x.2=v:=by
 unfold get at h
 rw[Option.map_eq_some_iff]at h
 obtain⟨x,hx,rfl⟩:=h
 exact⟨x,Lz hx,rfl⟩
abbrev isD (c:UInt8):Prop:=48≤c.toNat∧c.toNat≤57
theorem yr_digit (n d:Nat) (c:UInt8) (r:By) (h:isD c):yr n d (c::r)=yr (if d+1≤4 then n*10+(c.toNat - 48) else n) (d+1) r:=by
 conv=>lhs;unfold yr
 rw[if_pos h]
theorem yr_other (n d:Nat) (c:UInt8) (r:By) (h:¬ isD c):yr n d (c::r)=if d=4∧1000≤n∧n≤2199 then n else yr 0 0 r:=by
 conv=>lhs;unfold yr
 rw[if_neg h]
theorem yr_nil (n d:Nat):yr n d []=if d=4∧1000≤n∧n≤2199 then n else 0:=by unfold yr;rfl
theorem yr_run:∀ (p r:By) (n d:Nat),(∀ c∈p,isD c)→∃ m,yr n d (p++r)=yr m (d+p.length) r
 | [],r,n,d,_=>⟨n,rfl⟩
 | c::p,r,n,d,h=>by
  obtain⟨m,hm⟩:=yr_run p r (if d+1≤4 then n*10+(c.toNat - 48) else n) (d+1) (fun x hx=>h x (by simp[hx]))
  refine⟨m,?_⟩
  rw[CG,yr_digit _ _ _ _ (h c (by simp)),hm,AO,show d+1+p.length=d+(p.length+1) by omega]
theorem yr_end (r:By) (n d:Nat) (h:∀ c t,r=c::t→¬ isD c):yr n d r=if d=4∧1000≤n∧n≤2199 then n else yr 0 0 (r.drop 1):=by
 cases r with
 | nil=>rw[yr_nil];split <;> first | rfl | (rw[List.drop_nil,yr_nil,if_neg (by omega)])
 | cons c t=>rw[yr_other _ _ _ _ (h c t rfl)];rfl
theorem drop_cons (L:By) (i:Nat) (h:i<L.length):L.drop i=L.getD i 0::L.drop (i+1):=by
 rw[List.drop_eq_getElem_cons h,Bc,A7 h]
 rfl
theorem year_round (L:By) (i k:Nat) (hik:i≤k) (hk:k≤L.length) (hd:∀ j,i≤j→j<k→isD (L.getD j 0)) (he:k<L.length→¬ isD (L.getD k 0)) (v:Nat)
  (hv:k - i=4→v=((L.getD i 0).toNat - 48)*1000+((L.getD (i+1) 0).toNat - 48)*100+((L.getD (i+2) 0).toNat - 48)*10+((L.getD (i+3) 0).toNat - 48)) :
  yr 0 0 (L.drop i)=if k - i=4∧1000≤v∧v≤2199 then v else yr 0 0 (L.drop (k+1)):=by
 have hend:∀ c t,L.drop k=c::t→¬ isD c:=by
  intro c t h
  have hlt:k<L.length:=by
   rcases Cv k L.length with h1 | h1
   ·exact h1
   ·rw[AB h1]at h;cases h
  rw[drop_cons L k hlt]at h
  injection h with h1 _
  rw[← h1]
  exact he hlt
 by_cases h4:k - i=4
 ·have e:L.drop i=L.getD i 0::L.getD (i+1) 0::L.getD (i+2) 0::L.getD (i+3) 0::L.drop k:=by
   rw[drop_cons L i (by omega),drop_cons L (i+1) (by omega),drop_cons L (i+2) (by omega),drop_cons L (i+3) (by omega),show i+3+1=k by omega]
  have hv':=hv h4
  rw[e,yr_digit _ _ _ _ (hd i (by omega) (by omega)),yr_digit _ _ _ _ (hd (i+1) (by omega) (by omega)),yr_digit _ _ _ _ (hd (i+2) (by omega) (by omega)),yr_digit _ _ _ _ (hd (i+3) (by omega) (by omega)),yr_end _ _ _ hend,BT]
  simp only[Nat.reduceAdd,Nat.reduceLeDiff,if_true]
  have e2:(((0*10+((L.getD i 0).toNat - 48))*10+((L.getD (i+1) 0).toNat - 48))*10+((L.getD (i+2) 0).toNat - 48))*10+((L.getD (i+3) 0).toNat - 48)=v:=by rw[hv'];omega
  rw[e2]
  simp[h4]
 ·have e:L.drop i=(L.drop i).take (k - i)++L.drop k:=by
   have:=(List.take_append_drop (k - i) (L.drop i)).symm
   rw[BT,show i+(k - i)=k by omega]at this
   exact this
  obtain⟨m,hm⟩:=yr_run ((L.drop i).take (k - i)) (L.drop k) 0 0 (by
   intro c hc
   obtain⟨j,hj,rfl⟩:=Hu.1 hc
   rw[Az,AG]at hj
   have h1:=hd (i+j) (by omega) (by omega)
   rw[List.getElem_take,List.getElem_drop]
   rw[Bc,A7 (by omega)]at h1
   exact h1)
  rw[e,hm,Az,AG,yr_end _ _ _ hend,BT,if_neg (by omega),if_neg (by omega)]
end Rc
namespace Tx
open Go.Lib Rc
def wStep (p:Nat→Bool) (st:List By × By) (q:By) (c:Nat):List By × By :=
 if p c=true then (if st.2=[] then st else (st.1++[st.2],[])) else (st.1,st.2++q)
def wEnd (st:List By × By):List By:=if st.2=[] then st.1 else st.1++[st.2]
def fieldsT (p:Nat→Bool) (l:By):List By:=wEnd (foldT (wStep p) ([],[]) l)
def spans (s:ByteArray) (acc:List (Nat × Nat)):List By:=acc.map fun x=>(s.extract x.1 x.2).data.toList
def openW (s:ByteArray) (st:Option Nat) (pos:Nat):By:=match st with
 | some a=>(s.extract a pos).data.toList
 | none=>[]
theorem words_go (p:Nat→Bool) (s:ByteArray):∀ (f pos:Nat) (st:Option Nat) (acc:List (Nat × Nat)),
  pos≤s.size→s.size≤pos+f→valid (s.data.toList.drop pos)=true→(∀ a,st=A2 a→a<pos) →
  spans s (closeSpans s (spansFromP p s f pos st acc))=wEnd (foldT (wStep p) (spans s acc,openW s st pos) (s.data.toList.drop pos))
 | f,pos,st,acc,hp,hf,hv,hs=>by
  by_cases hlt:pos<s.size
  ·obtain⟨g,rfl⟩:∃ g,f=g+1:=⟨f - 1,by omega⟩
   have hne:s.data.toList.drop pos≠[]:=by
    intro h0
    have:=congrArg Cd h0
    rw[AG,← size_eq]at this
    simp at this
    omega
   obtain⟨hz,hd,hw,hv2,_⟩:=valid_head hne hv
   have hdec:Utf8.decode s pos=rdec (s.data.toList.drop pos):=by rw[← decodeL_drop,hd]
   have hle:wid (s.data.toList.drop pos)≤s.size - pos:=by
    have:=wid_le hne
    rw[AG,← size_eq]at this
    omega
   have hwp:=wid_pos (s.data.toList.drop pos)
   rw[foldT_step (wStep p) _ hne]
   simp only[spansFromP,if_pos hlt,hdec]
   rw[← hw]
   rw[BT]at hv2 ⊢
   generalize hk:wid (s.data.toList.drop pos)=k at *
   generalize hc:(rdec (s.data.toList.drop pos)).1=c at *
   cases hb:p c with
   | true =>
    simp only[if_true]
    cases st with
    | none =>
     have e:wStep p (spans s acc,openW s A4 pos) ((s.data.toList.drop pos).take k) c=(spans s acc,openW s A4 (pos+k)):=by simp[wStep,hb,openW]
     rw[e]
     exact words_go p s g (pos+k) A4 acc (by omega) (by omega) hv2 (fun a h=>by cases h)
    | some a =>
     have h1:=hs a rfl
     have e:wStep p (spans s acc,openW s (A2 a) pos) ((s.data.toList.drop pos).take k) c=(spans s (acc++[(a,pos)]),openW s A4 (pos+k)):=by
      simp[wStep,hb,openW,spans]
      omega
     rw[e]
     exact words_go p s g (pos+k) A4 (acc++[(a,pos)]) (by omega) (by omega) hv2 (fun a h=>by cases h)
   | false =>
    simp only[Dq,if_false]
    cases st with
    | some a =>
     have h1:=hs a rfl
     have e:wStep p (spans s acc,openW s (A2 a) pos) ((s.data.toList.drop pos).take k) c=(spans s acc,openW s (A2 a) (pos+k)):=by
      simp only[wStep,hb,openW,Dq,if_false]
      rw[extract_more s a pos k (by omega)]
     rw[e]
     exact words_go p s g (pos+k) (A2 a) acc (by omega) (by omega) hv2 (fun b h=>by cases h;omega)
    | none =>
     have e:wStep p (spans s acc,openW s A4 pos) ((s.data.toList.drop pos).take k) c=(spans s acc,openW s (A2 pos) (pos+k)):=by
      simp only[wStep,hb,openW,Dq,if_false,List.nil_append]
      rw[extract_more s pos pos k (An _),extract_none]
      rfl
     rw[e]
     exact words_go p s g (pos+k) (A2 pos) acc (by omega) (by omega) hv2 (fun b h=>by cases h;omega)
  ·have hps:pos=s.size:=by omega
   rw[spansFromP_end p s f _ _ _ hlt]
   have hnil:s.data.toList.drop pos=[]:=AB (by rw[← size_eq];omega)
   rw[hnil,foldT_nil]
   cases st with
   | none=>simp[closeSpans,openW,wEnd]
   | some a =>
    have h1:=hs a rfl
    simp[closeSpans,openW,wEnd,spans,hps]
    omega
 termination_by f=>f
theorem fieldsT_eq (p:Nat→Bool) (s:ByteArray) (hv:valid s.data.toList=true):(goFieldsP p s).map (·.data.toList)=fieldsT p s.data.toList:=by
 have h:=words_go p s s.size 0 A4 [] (Nat.zero_le _) (by omega) (by simpa using hv) (fun a h=>by cases h)
 rw[List.drop_zero]at h
 unfold fieldsT
 rw[show (([],[]):List By × By)=(spans s [],openW s A4 0) from rfl,← h]
 unfold spans goFieldsP spansOfP
 rw[List.map_map]
 rfl
def foldC (c:Nat):By :=
 if 65≤c∧c≤90 then [UInt8.ofNat (c+32)]
 else if c<192∨255<c∨c=215∨c=247 then []
 else if c=223 then [115,115]
 else if c=255 then [121]
 else if (if 224≤c then c - 32 else c)≤197 then [97]
 else if (if 224≤c then c - 32 else c)=198 then [97,101]
 else if (if 224≤c then c - 32 else c)=199 then [99]
 else if (if 224≤c then c - 32 else c)≤203 then [101]
 else if (if 224≤c then c - 32 else c)≤207 then [105]
 else if (if 224≤c then c - 32 else c)=208 then [100]
 else if (if 224≤c then c - 32 else c)=209 then [110]
 else if (if 224≤c then c - 32 else c)≤216 then [111]
 else if (if 224≤c then c - 32 else c)≤220 then [117]
 else if (if 224≤c then c - 32 else c)=221 then [121]
 else [116,104]
def foldP (q:By) (c:Nat):By:=if foldC c=[] then q else foldC c
def foldStep (out:By) (q:By) (c:Nat):By:=out++foldP q c
def foldS (l:By):By:=foldT foldStep [] l
def letter (c:Nat):Bool:=decide (97≤c∧c≤122)||decide (48≤c∧c≤57)||decide (256≤c)
def sepW (c:Nat):Bool:=!letter c
def words (l:By):List By:=fieldsT sepW (foldS l)
theorem foldC_len0:∀ c,c<256→(foldC c).length≤2:=by decide +kernel
theorem foldC_low:∀ c,c<256→∀ b∈foldC c,97≤b.toNat∧b.toNat≤122:=by decide +kernel
theorem foldC_high {c:Nat} (h:256≤c):foldC c=[]:=by
 unfold foldC
 rw[if_neg (by omega),if_pos (by omega)]
theorem foldC_len (c:Nat):(foldC c).length≤2:=by
 rcases Cv c 256 with h | h
 ·exact foldC_len0 c h
 ·rw[foldC_high h];simp
theorem foldC_asc (c:Nat):∀ b∈foldC c,97≤b.toNat∧b.toNat≤122:=by
 rcases Cv c 256 with h | h
 ·exact foldC_low c h
 ·rw[foldC_high h];simp
theorem rdec_asc {b:UInt8} (r:By) (h:32≤b.toNat∧b.toNat<127):rdec (b::r)=(b.toNat,1):=by
 unfold rdec
 exact by unfold rdecN;rw[List.getD_cons_zero,if_pos h]
theorem valid_asc:∀ (l:By),(∀ b∈l,32≤b.toNat∧b.toNat<127)→valid l=true
 | [],_=>rfl
 | b::r,h=>by
  have hb:=h b (by simp)
  rw[valid_step (by simp),rdec_asc r hb,if_neg (show ¬ (b.toNat,1).2=0 by simp)]
  exact valid_asc r (fun x hx=>h x (by simp[hx]))
theorem valid_foldC (c:Nat):valid (foldC c)=true:=valid_asc _ fun b hb=>by have:=foldC_asc c b hb;omega
theorem getD_take {l:By}{k j:Nat} (h:j<k):(l.take k).getD j 0=l.getD j 0:=by
 rw[Bc,Bc,List.getElem?_take,if_pos h]
theorem rdec_head {l:By} (hne:l≠[]) (h:(rdec l).2≠0):rdec (l.take (rdec l).2)=rdec l:=by
 have hl:=rdec_le hne
 have h0:0<l.length:=BV.2 hne
 generalize hk:(rdec l).2=k at *
 have e0:(l.take k).getD 0 0=l.getD 0 0:=getD_take (by omega)
 have el:(l.take k).length=k:=by rw[Az];omega
 unfold rdec at hk ⊢
 rw[e0,el]
 unfold rdecN at hk ⊢
 by_cases ha:32≤(l.getD 0 0).toNat∧(l.getD 0 0).toNat<127
 ·simp only[if_pos ha]
 ·simp only[if_neg ha]at hk ⊢
  by_cases hb:194≤(l.getD 0 0).toNat∧(l.getD 0 0).toNat<224∧1<l.length∧128≤(l.getD 1 0).toNat∧(l.getD 1 0).toNat<192
  ·simp only[if_pos hb]at hk ⊢
   by_cases hc:160≤((l.getD 0 0).toNat - 192)*64+(l.getD 1 0).toNat - 128
   ·rw[if_pos hc]at hk ⊢
    have hk2:k=2:=hk.symm
    have e1:(l.take k).getD 1 0=l.getD 1 0:=getD_take (by omega)
    rw[e1,if_pos ⟨hb.1,hb.2.1,by omega,hb.2.2.2⟩,if_pos hc]
   ·rw[if_neg hc]at hk
    exact absurd hk.symm h
  ·rw[if_neg hb]at hk
   rw[if_neg hb]
   by_cases hd:224≤(l.getD 0 0).toNat∧(l.getD 0 0).toNat<240∧2<l.length∧128≤(l.getD 1 0).toNat∧(l.getD 1 0).toNat<192∧128≤(l.getD 2 0).toNat∧(l.getD 2 0).toNat<192
   ·rw[if_pos hd]at hk
    rw[if_pos hd]
    split at hk
    ·rename_i hq
     have hk3:k=3:=hk.symm
     have e1:(l.take k).getD 1 0=l.getD 1 0:=getD_take (by omega)
     have e2:(l.take k).getD 2 0=l.getD 2 0:=getD_take (by omega)
     rw[e1,e2,if_neg (by omega),if_pos ⟨hd.1,hd.2.1,by omega,hd.2.2.2⟩]
    ·exact absurd hk.symm h
   ·rw[if_neg hd]at hk
    exact absurd hk.symm h
theorem valid_piece {l:By} (hne:l≠[]) (hv:valid l=true):valid (l.take (wid l))=true∧l.take (wid l)≠[]:=by
 obtain⟨hz,_,hw,_,_⟩:=valid_head hne hv
 have hl:=rdec_le hne
 have hlp:0<l.length:=BV.2 hne
 have hn:l.take (wid l)≠[]:=by
  intro h0
  have:=congrArg Cd h0
  rw[Az,hw,BL]at this
  omega
 refine⟨?_,hn⟩
 rw[hw]at hn ⊢
 have hr:=rdec_head hne hz
 rw[valid_step hn,hr,if_neg hz,AB (by rw[Az];omega)]
 rfl
theorem foldT_ind {σ:Type} (f:σ→By→Nat→σ) (I:σ→By→Prop) (hstep:∀ st l,l≠[]→valid l=true→I st l→I (f st (l.take (wid l)) (rdec l).1) (l.drop (wid l))):∀ (n:Nat) (st:σ) (l:By),l.length≤n→valid l=true→I st l→I (foldT f st l) []
 | 0,st,l,hn,hv,h=>by
  have:l=[]:=Aw (by omega)
  subst this
  rw[foldT_nil]
  exact h
 | n+1,st,l,hn,hv,h=>by
  by_cases hne:l=[]
  ·subst hne;rw[foldT_nil];exact h
  ·obtain⟨_,_,hw,hv2,_⟩:=valid_head hne hv
   have hwp:=wid_pos l
   rw[foldT_step f _ hne]
   exact foldT_ind f I hstep n _ _ (by rw[AG];omega) (by rw[hw]at hv2 ⊢;exact hv2) (hstep st l hne hv h)
theorem foldS_valid {l:By} (hv:valid l=true):valid (foldS l)=true:=by
 refine foldT_ind foldStep (fun out _=>valid out=true) (fun out m hne hm ho=>?_) l.length [] l (An _) hv rfl
 unfold foldStep foldP
 refine valid_app ho ?_
 split
 ·exact (valid_piece hne hm).1
 ·exact valid_foldC _
theorem foldS_len {l:By} (hv:valid l=true):(foldS l).length≤2*l.length:=by
 have:=foldT_ind foldStep (fun out m=>out.length+2*m.length≤2*l.length) (fun out m hne hm ho=>by
  have hwl:=wid_le hne
  have hwp:=wid_pos m
  have hc:=foldC_len (rdec m).1
  unfold foldStep foldP
  rw[Af,AG]
  split
  ·rw[Az];omega
  ·omega) l.length [] l (An _) hv (by simp)
 simpa [foldS] using this
theorem fieldsT_good (p:Nat→Bool) {l:By} (hv:valid l=true):(∀ w∈fieldsT p l,valid w=true∧w≠[])∧lens (fieldsT p l)≤l.length∧(fieldsT p l).length≤l.length:=by
 have hlen:∀ (a:List By) (b:By),lens (a++[b])=lens a+b.length:=fun a b=>by simp[lens]
 have h:=foldT_ind (wStep p) (fun st m=>(∀ w∈st.1,valid w=true∧w≠[])∧valid st.2=true∧lens st.1+st.2.length+m.length≤l.length∧st.1.length+st.2.length+m.length≤l.length+(if st.2=[] then 0 else 0)) (fun st m hne hm ⟨h1,h2,h3,h4⟩=>by
  have hwl:=wid_le hne
  have hwp:=wid_pos m
  have hpc:=valid_piece hne hm
  unfold wStep
  rw[AG]
  split
  ·split
   ·exact⟨h1,h2,by omega,by simp at h4 ⊢;omega⟩
   ·rename_i h9
    have h8:0<st.2.length:=BV.2 h9
    refine⟨fun w hw=>?_,rfl,by rw[hlen];simp;omega,by simp at h4 ⊢;omega⟩
    rcases AZ.1 hw with hw | hw
    ·exact h1 w hw
    ·simp at hw;rw[hw];exact⟨h2,h9⟩
  ·refine⟨h1,valid_app h2 hpc.1,?_,?_⟩
   ·simp only[Af,Az];omega
   ·simp at h4 ⊢;omega) l.length ([],[]) l (An _) hv ⟨by simp,rfl,by simp[lens],by simp⟩
 obtain⟨h1,h2,h3,h4⟩:=h
 unfold fieldsT wEnd
 simp only[BL,Nat.add_zero]at h3
 simp at h4
 split
 ·exact⟨h1,by omega,by omega⟩
 ·rename_i h9
  have h8:0<(foldT (wStep p) ([],[]) l).2.length:=BV.2 h9
  refine⟨fun w hw=>?_,by rw[hlen];exact h3,by rw[Af];simp;omega⟩
  rcases AZ.1 hw with hw | hw
  ·exact h1 w hw
  ·simp at hw;rw[hw];exact⟨h2,h9⟩
end Tx
namespace Qr
abbrev By:=List UInt8
inductive Qy where
 | mk (op fld:Int) (ws:List ByteArray) (a b:Int) (ks:List Qy)
namespace Qy
def op:Qy→Int | mk o _ _ _ _ _=>o
def fld:Qy→Int | mk _ f _ _ _ _=>f
def ws:Qy→List ByteArray | mk _ _ w _ _ _=>w
def a:Qy→Int | mk _ _ _ a _ _=>a
def b:Qy→Int | mk _ _ _ _ b _=>b
def ks:Qy→List Qy | mk _ _ _ _ _ k=>k
end Qy
theorem Qy.ind {P:Qy→Prop} (h:∀ o f ws a b ks,(∀ k∈ks,P k)→P (.mk o f ws a b ks)):∀ q,P q
 | .mk o f ws a b ks=>h o f ws a b ks fun k _hk=>Qy.ind h k
termination_by q => SizeOf.sizeOf q
decreasing_by have := List.sizeOf_lt_of_mem _hk; simp only [Qy.mk.sizeOf_spec]; omega
mutual
def nodes:Qy→Nat | .mk _ _ _ _ _ ks=>1+nodesL ks
def nodesL:List Qy→Nat | []=>0 | k::r=>nodes k+nodesL r
end
mutual
def depth:Qy→Nat | .mk _ _ _ _ _ ks=>depthL ks+1
def depthL:List Qy→Nat | []=>0 | k::r=>max (depth k) (depthL r)
end
theorem nodesL_app:∀ (l m:List Qy),nodesL (l++m)=nodesL l+nodesL m
 | [],m=>by simp[nodesL]
 | k::r,m=>by rw[CG,nodesL,nodesL,nodesL_app r m];omega
theorem depthL_app:∀ (l m:List Qy),depthL (l++m)=max (depthL l) (depthL m)
 | [],m=>by simp[depthL]
 | k::r,m=>by rw[CG,depthL,depthL,depthL_app r m];omega
theorem take_snoc {α:Type}{l:List α}{k:Nat}{x:α} (h:l[k]?=A2 x):l.take (k+1)=l.take k++[x]:=by
 rw[List.take_add_one,h];rfl
theorem nodes_pos:∀ q,1≤nodes q | .mk _ _ _ _ _ _=>by unfold nodes;omega
theorem depth_nodes:∀ q,depth q≤nodes q:=by
 intro q
 induction q using Qy.ind with
 | h o f ws a b ks ih =>
  have:∀ l:List Qy,(∀ k∈l,depth k≤nodes k)→depthL l≤nodesL l:=by
   intro l
   induction l with
   | nil=>intro _;simp[depthL,nodesL]
   | cons k r ih2=>intro h;have h1:=h k (by simp);have h2:=ih2 fun x hx=>h x (by simp[hx]);simp only[depthL,nodesL];omega
  have:=this ks ih
  simp only[depth,nodes]
  omega
theorem nodes_kid {k:Qy}{ks:List Qy} (h:k∈ks):nodes k≤nodesL ks:=by
 induction ks with
 | nil=>simp at h
 | cons x r ih =>
  rw[B9]at h
  simp only[nodesL]
  rcases h with rfl | h
  ·omega
  ·have:=ih h;omega
theorem ks_nodes (ks:List Qy):ks.length≤nodesL ks:=by
 induction ks with
 | nil=>simp
 | cons x r ih=>have:=nodes_pos x;simp only[nodesL,AO];omega
def isWord (s:ByteArray):Bool:=AL s.data.toList&&(Tx.words s.data.toList == [s.data.toList])
def termE (o f:Int) (ws:List ByteArray) (a b:Int) (n:Nat):Int :=
 if ws.length<1∨(o≠3∧1<ws.length)∨a≠0∨b≠0∨0<n then 3 else if ws.all isWord=false then 3 else if 8<ws.length then 4 else if f<0∨4<f then 2 else 0
def yearsE (f:Int) (ws:List ByteArray) (a b:Int) (n:Nat):Int :=
 if f≠0∨0<ws.length∨0<n then 3 else if a<1∨b<a∨2199<b then 2 else 0
def kidsE (o f:Int) (ws:List ByteArray) (a b:Int) (ks:List Qy):Int :=
 if f≠0∨a≠0∨b≠0∨0<ws.length∨ks.length<2∨(o=7∧2<ks.length) then 3 else if o=7 then 0 else if ks.any (fun k=>decide (k.op=o))=true then 3 else if 8<ks.length then 4 else 0
def nodeE:Qy→Int
 | .mk o f ws a b ks=>if o=1∨o=2∨o=3 then termE o f ws a b ks.length else if o=4 then yearsE f ws a b ks.length else if o=5∨o=6∨o=7 then kidsE o f ws a b ks else 3
mutual
def treeE:Qy→Int | .mk o f ws a b ks=>treeL (nodeE (.mk o f ws a b ks)) ks
def treeL:Int→List Qy→Int | e,[]=>e | e,k::r=>if e=0 then treeL (treeE k) r else e
end
theorem treeL_bad {e:Int} (h:e≠0):∀ l,treeL e l=e
 | []=>by simp[treeL]
 | k::r=>by simp[treeL,h]
theorem treeL_app:∀ (l m:List Qy) (e:Int),treeL e (l++m)=treeL (treeL e l) m
 | [],m,e=>by simp[treeL]
 | k::r,m,e=>by
  by_cases h:e=0
  ·subst h
   rw[CG,treeL,if_pos rfl,treeL_app r m,treeL,if_pos rfl]
  ·rw[treeL_bad h,treeL_bad h,treeL_bad h]
def rightE (q:Qy):Int:=if 64<nodes q∨8<depth q then 4 else treeE q
def bys (l:List ByteArray):List By:=l.map (·.data.toList)
end Qr
namespace Cp
open Go.Lib Rc
structure Ord {α:Type} (lt:α→α→Bool):Prop where
 irr:∀ x,lt x x=false
 tr:∀ {x y z},lt x y=true→lt y z=true→lt x z=true
 tot:∀ {x y},lt x y=false→x≠y→lt y x=true
variable {α : Type} [DecidableEq α] {lt : α → α → Bool}
def Asc (lt:α→α→Bool) (l:List α):Prop:=l.Pairwise fun x y=>lt x y=true
def put (lt:α→α→Bool):List α→α→List α
 | [],x=>[x]
 | y::r,x=>if lt y x=true then y::put lt r x else if y=x then y::r else x::y::r
theorem put_mem (lt:α→α→Bool):∀ (l:List α) (x z:α),z∈put lt l x↔z=x∨z∈l
 | [],x,z=>by simp[put]
 | y::r,x,z=>by
  unfold put
  split
  ·rw[B9,put_mem lt r x z,B9]
   constructor
   ·rintro (h | h | h)
    ·exact .inr (.inl h)
    ·exact .inl h
    ·exact .inr (.inr h)
   ·rintro (h | h | h)
    ·exact .inr (.inl h)
    ·exact .inl h
    ·exact .inr (.inr h)
  ·split
   ·rename_i h
    subst h
    rw[B9]
    constructor
    ·exact fun h=>.inr h
    ·rintro (h | h)
     ·exact .inl h
     ·exact h
   ·rw[B9]
theorem put_asc (o:Ord lt):∀ (l:List α) (x:α),Asc lt l→Asc lt (put lt l x)
 | [],x,_=>by simp[put,Asc]
 | y::r,x,h=>by
  unfold Asc at h
  rw[DY]at h
  unfold put Asc
  split
  ·rename_i h1
   rw[DY]
   refine⟨fun z hz=>?_,put_asc o r x h.2⟩
   rcases (put_mem lt r x z).1 hz with h2 | h2
   ·rw[h2];exact h1
   ·exact h.1 z h2
  ·rename_i h1
   split
   ·exact DY.2 h
   ·rename_i h2
    have h3:=o.tot (by simpa using h1) h2
    rw[DY]
    refine⟨fun z hz=>?_,DY.2 h⟩
    rcases B9.1 hz with h4 | h4
    ·rw[h4];exact h3
    ·exact o.tr h3 (h.1 z h4)
theorem asc_unique (o:Ord lt):∀ (a b:List α),Asc lt a→Asc lt b→(∀ z,z∈a↔z∈b)→a=b
 | [],[],_,_,_=>rfl
 | [],y::b,_,_,h=>by have:=(h y).2 (by simp);cases this
 | x::a,[],_,_,h=>by have:=(h x).1 (by simp);cases this
 | x::a,y::b,ha,hb,h=>by
  unfold Asc at ha hb
  rw[DY]at ha hb
  have hxy:x=y:=by
   by_cases e:x=y
   ·exact e
   ·have h1:x∈b:=by
     rcases B9.1 ((h x).1 (by simp)) with h2 | h2
     ·exact absurd h2 e
     ·exact h2
    have h3:y∈a:=by
     rcases B9.1 ((h y).2 (by simp)) with h2 | h2
     ·exact absurd h2.symm e
     ·exact h2
    have h4:=o.tr (ha.1 y h3) (hb.1 x h1)
    rw[o.irr]at h4
    cases h4
  subst hxy
  congr 1
  refine asc_unique o a b ha.2 hb.2 fun z=>?_
  constructor
  ·intro hz
   rcases B9.1 ((h z).1 (by simp[hz])) with h2 | h2
   ·subst h2
    have:=ha.1 z hz
    rw[o.irr]at this
    cases this
   ·exact h2
  ·intro hz
   rcases B9.1 ((h z).2 (by simp[hz])) with h2 | h2
   ·subst h2
    have:=hb.1 z hz
    rw[o.irr]at this
    cases this
   ·exact h2
def puts (lt:α→α→Bool) (l:List α):List α:=l.foldl (put lt) []
theorem foldl_put_mem (lt:α→α→Bool):∀ (l acc:List α) (z:α),z∈l.foldl (put lt) acc↔z∈acc∨z∈l
 | [],acc,z=>by simp
 | x::l,acc,z=>by
  rw[List.foldl_cons,foldl_put_mem lt l _ z,put_mem,B9]
  constructor
  ·rintro ((h | h) | h)
   ·exact .inr (.inl h)
   ·exact .inl h
   ·exact .inr (.inr h)
  ·rintro (h | h | h)
   ·exact .inl (.inr h)
   ·exact .inl (.inl h)
   ·exact .inr h
theorem foldl_put_asc (o:Ord lt):∀ (l acc:List α),Asc lt acc→Asc lt (l.foldl (put lt) acc)
 | [],_,h=>h
 | x::l,acc,h=>foldl_put_asc o l _ (put_asc o acc x h)
theorem puts_mem (lt:α→α→Bool) (l:List α) (z:α):z∈puts lt l↔z∈l:=by
 unfold puts
 rw[foldl_put_mem]
 simp
theorem puts_asc (o:Ord lt) (l:List α):Asc lt (puts lt l):=foldl_put_asc o l [] List.Pairwise.nil
theorem puts_same (o:Ord lt) {a b:List α} (h:∀ z,z∈a↔z∈b):puts lt a=puts lt b :=
 asc_unique o _ _ (puts_asc o a) (puts_asc o b) fun z=>by rw[puts_mem,puts_mem];exact h z
theorem puts_of (o:Ord lt) {a b:List α} (ha:Asc lt a) (h:∀ z,z∈a↔z∈b):a=puts lt b :=
 asc_unique o _ _ ha (puts_asc o b) fun z=>by rw[puts_mem];exact h z
omit [DecidableEq α] in
theorem at_get [Inhabited α] (zs:List α) (j:Nat) (h:j<zs.length):(zs.toArray)[j]! = zs[j]'h:=by
 rw[getElem!_pos zs.toArray j (by simpa using h)]
 simp
theorem compact_at [Inhabited α] (zs:List α):∀ j,j<zs.length→(zs.toArray)[j]!∈compact zs
 | 0,h=>by
  unfold compact compactUpTo
  exact B3.2 ⟨0,B8.2 ⟨F8.2 h,by simp[keeps]⟩,rfl⟩
 | j+1,h=>by
  by_cases e:(zs.toArray)[j+1]! = (zs.toArray)[j]!
  ·rw[e];exact compact_at zs j (by omega)
  ·unfold compact compactUpTo
   exact B3.2 ⟨j+1,B8.2 ⟨F8.2 h,by unfold keeps;simpa using e⟩,rfl⟩
theorem compact_mem [Inhabited α] (zs:List α) (z:α):z∈compact zs↔z∈zs:=by
 constructor
 ·intro h
  unfold compact compactUpTo at h
  obtain⟨j,hj,rfl⟩:=B3.1 h
  have:=F8.1 (B8.1 hj).1
  rw[at_get zs j this]
  exact List.getElem_mem _
 ·intro h
  obtain⟨j,hj,rfl⟩:=Hu.1 h
  rw[← at_get zs j hj]
  exact compact_at zs j hj
theorem compact_asc [Inhabited α] (o:Ord lt) (zs:List α) (h:zs.Pairwise fun x y=>lt y x=false):Asc lt (compact zs):=by
 unfold Asc compact compactUpTo
 rw[List.pairwise_map]
 have hp:(List.filter (keeps zs.toArray) (List.range zs.length)).Pairwise (·<·):=List.Pairwise.filter _ List.pairwise_lt_range
 have hm:∀ j∈List.filter (keeps zs.toArray) (List.range zs.length),j<zs.length∧keeps zs.toArray j=true:=fun j hj=>⟨F8.1 (B8.1 hj).1,(B8.1 hj).2⟩
 rw[List.pairwise_iff_forall_sublist]at hp ⊢
 intro i j hs
 have hij:i<j:=hp hs
 obtain⟨hj,hk⟩:=hm j (hs.subset (by simp))
 rw[List.pairwise_iff_getElem]at h
 unfold keeps at hk
 rw[decide_eq_true_eq]at hk
 have hne:=hk.resolve_left (by omega)
 rw[at_get zs j hj,at_get zs (j - 1) (by omega)]at hne
 rw[at_get zs i (by omega),at_get zs j hj]
 have h1:lt (zs[j - 1]'(by omega)) (zs[j]'hj)=true:=o.tot (h (j - 1) j (by omega) hj (by omega)) hne
 by_cases e:i=j - 1
 ·subst e;exact h1
 ·have h2:=h i (j - 1) (by omega) (by omega) (by omega)
  by_cases e2:(zs[i]'(by omega))=(zs[j - 1]'(by omega))
  ·rw[e2];exact h1
  ·exact o.tr (o.tot h2 (fun e3=>e2 e3.symm)) h1
theorem compact_puts [Inhabited α] (o:Ord lt) {zs ys:List α} (hp:zs.Perm ys) (h:zs.Pairwise fun x y=>lt y x=false):compact zs=puts lt ys :=
 puts_of o (compact_asc o zs h) fun z=>by rw[compact_mem];exact hp.mem_iff
def ltI (a b:Int):Bool:=decide (a<b)
theorem ordI:Ord ltI:=⟨fun x=>by simp[ltI],fun {x y z} h1 h2=>by unfold ltI at *;simp at *;omega,fun {x y} h1 h2=>by unfold ltI at *;simp at *;omega⟩
def ltB (a b:By):Bool:=decide (a<b)
theorem ordB:Ord ltB:=⟨fun x=>by unfold ltB;simp[List.lt_irrefl],fun {x y z} h1 h2=>by unfold ltB at *;simp at *;exact List.lt_trans h1 h2,fun {x y} h1 h2=>by
 unfold ltB at *
 simp at *
 rcases List.le_total x y with h | h
 ·exact absurd (List.le_antisymm h h1) h2
 ·rw[← List.not_le]
  intro h3
  exact h2 (List.le_antisymm h3 h)⟩
end Cp
end Go.Proofs.YtlakomilichhnaaGreatDoor
