/- Parts. -/
import Derived.Test.YtlakomilichhnaaGreatDoorROx
namespace Go.Proofs.YtlakomilichhnaaGreatDoor
set_option maxHeartbeats 51200000
set_option maxRecDepth 100000
open Go.RowKit
open Go renaming Addr->Aq,Calls->Af,Value->Ak,World->Ab,bodyPost_ret->Aw,cell_later->A4,heap_alloc_new->Ae
open Lib renaming hid->J,indexByte->Cx,toList_data->AG
open List renaming drop_zero->AU,eq_nil_of_length_eq_zero->Ar,flatMap_append->AR,getElem?_append_left->Cd,getElem?_append_right->BE,getElem?_eq_some_iff->Av,getElem?_map->AP,length_append->Ag,length_map->Ax,length_tail->Cl,map_map->DF
open Nat renaming add_zero->BN,le_refl->Ad,le_trans->Au,lt_of_lt_of_le->AN
open Option renaming map_eq_some_iff->D9,none->A0,some->A3
open Proofs.Tryz renaming func303->ES,ntmps303->Et,prog->A8,results303->Gh,underlying27->DG
open Qr renaming Tok->AM,begins->Dg,lk->AT,lk1->F1,wordsB->Bp,yearN->Di
open RowKit renaming Below->Aa
open Tx renaming blk->A7,blk_far->As,blk_later->A6,newb->A9,retb->AX
open UInt8 renaming ofNat->Dm
open World renaming cell?_of_block->Ce,setCell->B5
open _root_.Array renaming getElem?_eq_some_iff->AA,getElem?_modify->Dy
variable {P:Prop}
namespace Qr
abbrev encT (t:Tok):List Ak:=[.int .u8 t.k.toNat,.string ⟨t.t.toArray⟩,.bool t.g]
def GP (g:Nat) (w:Ab):Prop:=∃ w0,G w0/\w0.heap.size<=g/\Aa w0.heap.size w0 w
theorem GP.g {g:Nat}{w:Ab} (h:GP g w):G w:=by
 obtain⟨w0,h1,_,h3⟩:=h;exact h1.below h3
theorem GP.fr {g:Nat}{w w':Ab} (h:GP g w) (hg:g<w.heap.size) (hF:Fr g w w'):GP g w':=by
 obtain⟨w0,h1,h2,h3⟩:=h;exact⟨w0,h1,h2,h3.trans (hF.below h2 hg)⟩
structure PS (g:Nat) (l r:List Tok) (w:Ab):Prop where
 suf:r <:+ l
 len:l.length<=1000000
 ok:∀ t∈l,Tx.valid t.t=true/\t.t.length<=1000
 gp:GP g w
 blk:∃ ta tc,w.heap[g]?=A3 (.cells #[.slice ta l.length tc,.int .i64 ((l.length - r.length:Nat):Int)] 129 (0,0))/\Br.FA encT 3 w ta tc l/\(∀ ad,ta=A3 ad->ad.block<g)
theorem PS.lt {g:Nat}{l r:List Tok}{w:Ab} (h:PS g l r w):g<w.heap.size:=by
 obtain⟨ta,tc,h1,_⟩:=h.blk;exact (AA.1 h1).1
theorem PS.below {g:Nat}{l r:List Tok}{w w':Ab} (h:PS g l r w) (hb:Aa w.heap.size w w'):PS g l r w':=by
 have hgp:=h.gp.fr h.lt (.of_below hb);obtain⟨ta,tc,h1,h2,h3⟩:=h.blk;exact⟨h.suf,h.len,h.ok,hgp,ta,tc,A6 h1 hb,h2.below hb,h3⟩
theorem Fr.fa' {α:Type}{enc:α->List Ak}{size:Nat}{g:Nat}{w w':Ab}{a:Option Aq}{c:Nat}{xs:List α} (h:Fr g w w') (hf:Br.FA enc size w a c xs) (hb:∀ ad,a=A3 ad->ad.block≠g):Br.FA enc size w' a c xs:=by
 obtain⟨b,o,h1,h2⟩:=hf.at_;by_cases hne:xs=[]
 ·subst hne;exact⟨hf.cap,hf.max,b,o,fun h9=>absurd rfl h9,fun j i x u hx=>by simp at hx⟩
 ·have h3:=hb _ (h1 hne).1;exact⟨hf.cap,hf.max,b,o,fun hn=>⟨(h1 hn).1,AN (h1 hn).2 h.size⟩,fun j i x u hx hu=>h.cell h3 (h2 j i x u hx hu)⟩
theorem blk_set1 {w:Ab}{g:Nat}{v0 v1:Ak}{t:TypeId} (h:w.heap[g]?=A3 (.cells #[v0,v1] t (0,0))) (u:Ak):(w.setCell ⟨g,1,A0⟩ u).heap[g]?=A3 (.cells #[v0,u] t (0,0)):=by
 simp only[B5,Dy];rw[h];simp
theorem PS.adv {g:Nat}{l r r':List Tok}{w:Ab} (h:PS g l r w) (hr:r' <:+ r) {m:Int} (hm:m=((l.length - r'.length:Nat):Int)):PS g l r' (w.setCell ⟨g,1,A0⟩ (.int .i64 m)):=by
 have hF:Fr g w (w.setCell ⟨g,1,A0⟩ (.int .i64 m)):=(Fr.refl g w).set rfl _;have hgp:=h.gp.fr h.lt hF;obtain⟨ta,tc,h1,h2,h3⟩:=h.blk;exact⟨hr.trans h.suf,h.len,h.ok,hgp,ta,tc,by rw[hm];exact blk_set1 h1 _,hF.fa' h2 (fun ad e=>by have:=h3 ad e;omega),h3⟩
theorem PS.cells {g:Nat}{l r:List Tok}{w:Ab} (h:PS g l r w):∃ ta tc,w.cell? ⟨g,0,A0⟩=A3 (.slice ta l.length tc)/\w.cell? ⟨g,1,A0⟩=A3 (.int .i64 ((l.length - r.length:Nat):Int))/\∀ i,w.frozen? ⟨g,i,A0⟩=false:=by
 obtain⟨ta,tc,h1,_,_⟩:=h.blk;obtain⟨c,f,_⟩:=A7 h1;exact⟨ta,tc,c 0,c 1,f⟩
abbrev wrongP:Ak:=.iface 132 (.agg #[])
theorem suf_at {l r:List Tok} (h:r <:+ l) (n:Nat):l[l.length - r.length+n]?=r[n]?:=by
 obtain⟨p,rfl⟩:=h;rw[Ag,Nat.add_sub_cancel,BE oQ];congr 1;omega
theorem lk_drop {r:List Tok}{n:Nat}:lk (r.drop n)=(r[n]?).getD ⟨0,[],false⟩:=by
 unfold lk;rw[List.headD_eq_head?_getD,List.head?_drop]
end Qr
theorem Tx.drawn {B:Nat}{a w:Ab} (h:Aa B a w) (n:Nat):Aa B a (w.drewN n):=⟨h.os,h.tape,h.output,h.size,h.block⟩
theorem Tx.put3 {B g:Nat}{w wr:Ab} (h:Aa B w wr) (hg:B<=g) (v0 v1 v2:Ak):Aa B w (((wr.setCell ⟨g,0,A0⟩ v0).setCell ⟨g,1,A0⟩ v1).setCell ⟨g,2,A0⟩ v2) :=
 ((h.setCell hg _).setCell hg _).setCell hg _
theorem look_c (g n:Nat) (m:Int) (l r:List AM) (w:Ab) (hm:m=(n:Int)) (hn:n<=1) (hP:Qr.PS g l r w) :
  Af A8 252 #[.pointer (A3 ⟨g,0,A0⟩),.int .i64 m] w fun e w'=>e=.returned (.agg #[.int .u8 (AT (r.drop n)).k.toNat,.string ⟨(AT (r.drop n)).t.toArray⟩,.bool (AT (r.drop n)).g])/\Aa w.heap.size w w':=by
 obtain⟨ta,tc,hblk,hFA,hne⟩:=hP.blk;have hsl:=hP.suf.length_le;have hll:=hP.len;have hcap:=hFA.cap;have hmx:maxLen=9223372036854775807:=rfl;have hmax:=hFA.max;obtain⟨A,hA⟩:=zap;have hAt:=Qr.suf_at hP.suf n;rw[hA]at hblk hAt;subst hm;have hw1:=IntWalk.i64_in ((A:Int)+(n:Int)) ⟨oQ,oQ⟩;obtain⟨W,hW⟩:∃ W,w.alloc (.cells #[.int .u8 0,.string ⟨#[]⟩,.bool false] 205)=W:=⟨_,rfl⟩;have hB:=zi;obtain⟨bc,bf,bl⟩:=A7 (A6 hblk hB);obtain⟨rc,rf,rl⟩:=A7 (show W.heap[w.heap.size]?=A3 (.cells #[.int .u8 0,.string ⟨#[]⟩,.bool false] 205 (0,0)) by rw[<- hW];exact Ae _ _);obtain⟨f0,f1⟩:=Tx.d2 bc;obtain⟨c0,c1,c2⟩:=Tx.d3 rc;clear bc bf rc;rw[Qr.lk_drop];cases hr:r[n]? with
 | none =>
  rw[hr]at hAt;have hge:l.length<=A+n:=List.getElem?_eq_none_iff.1 hAt;have g1:¬ ((A:Int)+n<(l.length:Int)):=oQ;clear hP hblk hFA hne hAt hr hA;rw[Option.getD_none];go_enter Tryz.func252,Tryz.ntmps252;go_wp2;go_quiet (fail);go_wp2;refine Aw (v:=.agg #[.int .u8 0,.string ⟨#[]⟩,.bool false]) zsb rfl ⟨rfl,Tx.put3 (Tx.drawn hB _) (Ad _) _ _ _⟩
 | some t =>
  rw[hr]at hAt;have hlt:A+n<l.length:=(Av.1 hAt).1;have g1:(A:Int)+n<(l.length:Int):=oQ;obtain⟨b,o,rfl,hbl,hc⟩:=(hFA.below hB).get hAt;have d0:=hc 0 _ rfl;have d1:=hc 1 _ rfl;have d2:=hc 2 _ rfl;obtain⟨N,hN⟩:∃ N,A+n=N:=⟨_,rfl⟩;have hNi:(A:Int)+(n:Int)=(N:Int):=oQ;rw[hN]at d0 d1 d2;rw[hNi]at hw1 g1;rw[BN]at d0;clear hP hblk hFA hne hAt hr hA hc;rw[Option.getD_some];have HN:=J hNi;go_enter Tryz.func252,Tryz.ntmps252;go_wp2;go_quiet (fail);go_wp2;have hb2:=Tx.drawn hB nq;replace f0:(W.drewN nq).cell? ⟨g,0,A0⟩=A3 (.slice (A3 ⟨b,o,A0⟩) l.length tc):=f0;replace f1:(W.drewN nq).cell? ⟨g,1,A0⟩=A3 (.int .i64 (A:Int)):=f1;replace c0:(W.drewN nq).cell? ⟨w.heap.size,0,A0⟩=A3 (.int .u8 0):=c0;replace c1:(W.drewN nq).cell? ⟨w.heap.size,1,A0⟩=A3 (.string ⟨#[]⟩):=c1;replace c2:(W.drewN nq).cell? ⟨w.heap.size,2,A0⟩=A3 (.bool false):=c2;replace d0:(W.drewN nq).cell? ⟨b,o+N*3,A0⟩=A3 (.int .u8 t.k.toNat):=d0;replace d1:(W.drewN nq).cell? ⟨b,o+N*3+1,A0⟩=A3 (.string ⟨t.t.toArray⟩):=d1;replace d2:(W.drewN nq).cell? ⟨b,o+N*3+2,A0⟩=A3 (.bool t.g):=d2;replace rf:∀ i,(W.drewN nq).frozen? ⟨w.heap.size,i,A0⟩=false:=rf;generalize W.drewN nq=W2 at *;clear hB bl rl hbl hW;go_still_tail 12,oJ;change wpList _ _ _ _ _ W2.drew;replace c0:W2.drew.cell? ⟨w.heap.size,0,A0⟩=A3 (.int .u8 0):=c0;replace c1:W2.drew.cell? ⟨w.heap.size,1,A0⟩=A3 (.string ⟨#[]⟩):=c1;replace c2:W2.drew.cell? ⟨w.heap.size,2,A0⟩=A3 (.bool false):=c2;replace rf:∀ i,W2.drew.frozen? ⟨w.heap.size,i,A0⟩=false:=rf;replace hb2:=hb2.drew;generalize W2.drew=W3 at *;go_wp2;refine Aw (v:=.agg #[.int .u8 t.k.toNat,.string ⟨t.t.toArray⟩,.bool t.g]) zsb rfl ⟨rfl,Tx.put3 hb2 (Ad _) _ _ _⟩
namespace Qr
theorem drop_at {s:ByteArray}{k:Nat} (h:k<s.size):s.data.toList.drop k=s[k]'h::s.data.toList.drop (k+1):=by
 rw[List.drop_eq_getElem_cons iW];rfl
theorem run_cons (c:UInt8) (r:By):run (c::r)=if sgn c=true then [] else c::run r:=by
 unfold run;rw[List.takeWhile_cons];cases sgn c <;> rfl
theorem sgn_index (c:UInt8):(Cx [32,40,41,58,42,34] c<0)↔sgn c=false:=by
 unfold sgn;have:∀ n:Nat,n<256->((Cx [32,40,41,58,42,34] (Dm n)<0)↔(Dm n == 32||Dm n == 40||Dm n == 41||Dm n == 58||Dm n == 42||Dm n == 34)=false):=by decide +kernel
 have h:=this c.toNat c.toNat_lt;rw[UInt8.ofNat_toNat]at h;exact h
theorem tokF_blank (g:Bool) (r:By):tokF g (32::r)=tokF false r:=by rw[tokF_cons,if_pos rfl]
theorem tokF_sign {c:UInt8} (g:Bool) (r:By) (h:c=40\/c=41\/c=58\/c=42):tokF g (c::r)=⟨c,[],g⟩::tokF true r:=by
 rw[tokF_cons,if_neg (by rcases h with rfl | rfl | rfl | rfl <;> decide),if_pos h]
theorem tokF_quote {x y:By} (g:Bool) (r:By) (h:Sp.cut 34 r=A3 (x,y)):tokF g (34::r)=⟨113,x,g⟩::tokF true y:=by
 rw[tokF_cons,if_neg oX,if_neg oX,if_pos rfl,h]
theorem tokF_open (g:Bool) (r:By) (h:Sp.cut 34 r=A0):tokF g (34::r)=⟨34,[],g⟩::tokF true r:=by
 rw[tokF_cons,if_neg oX,if_neg oX,if_pos rfl,h]
theorem tokF_run {c:UInt8} (g:Bool) (r:By) (h:sgn c=false):tokF g (c::r)=⟨114,c::run r,g⟩::tokF true (r.drop (run r).length):=by
 have hh:c≠32/\c≠40/\c≠41/\c≠58/\c≠42/\c≠34:=by
  unfold sgn at h;simp only[Bool.or_eq_false_iff,beq_eq_false_iff_ne]at h;exact⟨h.1.1.1.1.1,h.1.1.1.1.2,h.1.1.1.2,h.1.1.2,h.1.2,h.2⟩
 rw[tokF_cons,if_neg hh.1,if_neg (by rintro (h | h | h | h) <;> simp_all),if_neg hh.2.2.2.2.2]
theorem run_at {s:ByteArray}{k n:Nat} (h1:1<=n) (hle:k+n<=s.size) (hin:∀ j,1<=j->j<n->∀ h:k+j<s.size,sgn (s[k+j]'h)=false) (hout:∀ h:k+n<s.size,sgn (s[k+n]'h)=true) :
  run (s.data.toList.drop (k+1))=(s.data.toList.drop (k+1)).take (n - 1):=by
 have:∀ (d j:Nat),j+d=n->1<=j->run (s.data.toList.drop (k+j))=(s.data.toList.drop (k+j)).take d:=by
  intro d
  induction d with
  | zero =>
   intro j hj hj1;by_cases hlt:k+j<s.size
   ·rw[drop_at hlt,run_cons,if_pos (by have:=hout oQ;simpa [show k+j=k+n by omega] using this)];rfl
   ·rw[List.drop_eq_nil_of_le aK];rfl
  | succ d ih =>
   intro j hj hj1;have hlt:k+j<s.size:=oQ;rw[drop_at hlt,run_cons,if_neg (by rw[hin j hj1 oQ hlt];simp),List.take_succ_cons,show k+j+1=k+(j+1) by omega,ih (j+1) oQ oQ]
 have:=this (n - 1) 1 oQ (Ad _);exact this
end Qr
section
theorem Qr.run_tok0 (k:Int) (t:ByteArray) (b:Bool) (w:Ab):(Instr.field 205 (.agg #[.int .u8 k,.string t,.bool b]) 0).run A8 w=.ok (.int .u8 k) w:=by kernel_rfl
theorem Qr.run_tok1 (k:Int) (t:ByteArray) (b:Bool) (w:Ab):(Instr.field 205 (.agg #[.int .u8 k,.string t,.bool b]) 1).run A8 w=.ok (.string t) w:=by kernel_rfl
theorem Qr.run_tok2 (k:Int) (t:ByteArray) (b:Bool) (w:Ab):(Instr.field 205 (.agg #[.int .u8 k,.string t,.bool b]) 2).run A8 w=.ok (.bool b) w:=by kernel_rfl
attribute [local go_sem] Qr.run_tok0 Qr.run_tok1 Qr.run_tok2
theorem Qr.kn {c:UInt8}{n:Nat} (hn:n<256):(¬ c=Dm n)->¬ ((c.toNat:Int)=(n:Int)):=by
 intro h e;exact h (by rw[<- UInt8.toNat_inj,UInt8.toNat_ofNat'];omega)
theorem Qr.bs (l m:List UInt8):((⟨l.toArray⟩:ByteArray).toList == (⟨m.toArray⟩:ByteArray).toList)=(l == m):=by rw[AG,AG]
theorem is_c (g:Nat) (l r:List AM) (s:List UInt8) (w:Ab) (hP:Qr.PS g l r w) :
  Af A8 196 #[.pointer (A3 ⟨g,0,A0⟩),.string ⟨s.toArray⟩] w fun e w'=>e=.returned (.bool (Qr.isOp s r))/\Aa w.heap.size w w':=by
 obtain⟨t,ht⟩:=zgn;have HS:Hid (Qr.isOp s r=((t.k == 114)&&(t.t == s))):=J (by unfold Qr.isOp;rw[ht]);have HT:=J ht;clear ht;by_cases hk:t.k=114
 ·have hkn:((t.k.toNat:Nat):Int)=114:=by rw[hk];rfl
  have HK:=J hkn;clear hkn;go_enter Tryz.func196,Tryz.ntmps196
  go_wp2_with (first
   |(go_at_call 252;refine (look_c g 0 0 l r w rfl oQ hP).mono ?_;rintro e w1 ⟨rfl,hb1⟩;rw[AU,HT.out,HK.out])
   |(go_at_call 252;refine (look_c g 0 0 l r _ rfl oQ (hP.below hb1)).mono ?_;rintro e w2 ⟨rfl,hb2⟩;rw[AU,HT.out,HK.out]))
  all_goals
   go_ret;exact⟨AX (by rw[HS.out,hk];simp[*]),hb1.trans (hb2.mono hb1.size)⟩
 ·have hkn:((t.k.toNat:Int) == 114)=false:=beq_eq_false_iff_ne.2 (Qr.kn (n:=114) oX hk);have hk0:(t.k == 114)=false:=beq_eq_false_iff_ne.2 hk;have HK0:=J hk0;clear hk0 hk;go_enter Tryz.func196,Tryz.ntmps196;go_wp2_with (go_at_call 252;refine (look_c g 0 0 l r w rfl oQ hP).mono ?_;rintro e w1 ⟨rfl,hb1⟩;rw[AU,HT.out]);go_ret;exact⟨AX (by rw[HS.out,HK0.out];rfl),hb1⟩
theorem Qr.begins_k {r:List AM}{t:AM} (h:AT r=t):Dg r=(t.k == 40||t.k == 113||(t.k == 114&&!(t.t == Qr.orB)&&!(t.t == Qr.andB)&&!(t.t == Qr.notB))):=by
 unfold Dg Qr.word0 Qr.anyOp;rw[h];cases t.k == 40 <;> cases t.k == 113 <;> cases t.k == 114 <;> cases t.t == Qr.orB <;> cases t.t == Qr.andB <;> cases t.t == Qr.notB <;> rfl
theorem u5w (h:P:=by
 go_enter Tryz.func251,Tryz.ntmps251;go_wp2_with (go_at_call 252;refine (look_c g 0 0 l r w rfl oQ hP).mono ?_;rintro e w1 ⟨rfl,hb1⟩;rw[AU,HT.out,HK.out])
 first
  |all_goals
    go_ret;exact⟨AX (by rw[HS.out];simp[*,Qr.orB,Qr.andB,Qr.notB]),hb1.trans ((A9 _ _).mono hb1.size)⟩
  |go_ret
   exact⟨AX (by rw[HS.out];rfl),hb1.trans ((A9 _ _).mono hb1.size)⟩):P:=h
theorem begins_c (g:Nat) (l r:List AM) (w:Ab) (hP:Qr.PS g l r w) :
  Af A8 251 #[.pointer (A3 ⟨g,0,A0⟩)] w fun e w'=>e=.returned (.bool (Dg r))/\Aa w.heap.size w w':=by
 obtain⟨t,ht⟩:=zgn;have HS:=J (Qr.begins_k ht);have HT:=J ht;clear ht;by_cases k1:t.k=40
 ·have hkn:((t.k.toNat:Nat):Int)=40:=by rw[k1];rfl
  have HK:=J hkn;clear hkn;rw[k1]at HS;exact u5w
 ·have n1:((t.k.toNat:Int) == 40)=false:=beq_eq_false_iff_ne.2 (Qr.kn (n:=40) oX k1);have k1':(t.k == 40)=false:=beq_eq_false_iff_ne.2 k1;rw[k1']at HS;clear k1';by_cases k2:t.k=113
  ·have hkn:((t.k.toNat:Nat):Int)=113:=by rw[k2];rfl
   have HK:=J hkn;clear hkn n1 k1;rw[k2]at HS;exact u5w
  ·have n2:((t.k.toNat:Int) == 113)=false:=beq_eq_false_iff_ne.2 (Qr.kn (n:=113) oX k2);have k2':(t.k == 113)=false:=beq_eq_false_iff_ne.2 k2;rw[k2']at HS;clear k2';by_cases k3:t.k=114
   ·have hkn:((t.k.toNat:Nat):Int)=114:=by rw[k3];rfl
    have HK:=J hkn;clear hkn n1 k1 n2 k2;rw[k3]at HS;exact u5w
   ·have n3:((t.k.toNat:Int) == 114)=false:=beq_eq_false_iff_ne.2 (Qr.kn (n:=114) oX k3);have k3':(t.k == 114)=false:=beq_eq_false_iff_ne.2 k3;rw[k3']at HS;clear k3';go_enter Tryz.func251,Tryz.ntmps251;go_wp2_with (go_at_call 252;refine (look_c g 0 0 l r w rfl oQ hP).mono ?_;rintro e w1 ⟨rfl,hb1⟩;rw[AU,HT.out]);go_ret;exact⟨AX (by rw[HS.out];rfl),hb1.trans ((A9 _ _).mono hb1.size)⟩
end
namespace Qr
structure QT where
 op:Int
 fl:Int
 sa:Option Aq
 sn:Nat
 sc:Nat
 a:Int
 b:Int
 ka:Option Aq
 kn:Nat
 kc:Nat
abbrev encQ (t:QT):List Ak:=[.int .i64 t.op,.int .i64 t.fl,.slice t.sa t.sn t.sc,.int .i64 t.a,.int .i64 t.b,.slice t.ka t.kn t.kc]
theorem encQ_len (t:QT):(encQ t).length=6:=rfl
theorem encQ_one (t:QT):∀ u∈encQ t,u.oneCell'=true:=by simp[encQ,Value.oneCell']
theorem encQ_ones (T:List QT):∀ u∈T.flatMap encQ,u.oneCell'=true:=Br.flat_one encQ_one T
theorem QC.qt {B:Nat}{w:Ab}{q:Qy}{cs:List Ak} (h:QC B w q cs):∃ t,cs=encQ t:=by
 cases h;exact⟨⟨_,_,_,_,_,_,_,_,_,_⟩,rfl⟩
def QL (B:Nat) (w:Ab) (ks:List Qy) (T:List QT):Prop:=T.length=ks.length/\∀ (j:Nat) k t,ks[j]?=A3 k->T[j]?=A3 t->QC B w k (encQ t)
theorem QL.nil (B:Nat) (w:Ab):QL B w [] []:=⟨rfl,fun j k t h=>by simp at h⟩
theorem QL.one {B:Nat}{w:Ab}{k:Qy}{t:QT} (h:QC B w k (encQ t)):QL B w [k] [t]:=by
 refine⟨rfl,fun j k2 t2 h1 h2=>?_⟩
 match j,h1,h2 with
 | 0,h1,h2=>injection h1 with h1;injection h2 with h2;rw[<- h1,<- h2];exact h
 | j+1,h1,_=>simp at h1
theorem QL.app {B:Nat}{w:Ab}{ks ks2:List Qy}{T T2:List QT} (h:QL B w ks T) (h2:QL B w ks2 T2):QL B w (ks++ks2) (T++T2):=by
 refine⟨by rw[Ag,Ag,h.1,h2.1],fun j k t hk ht=>?_⟩;by_cases hj:j<ks.length
 ·rw[Cd hj]at hk;rw[Cd UW]at ht;exact h.2 j k t hk ht
 ·rw[BE oQ]at hk;rw[BE (by rw[h.1];omega),h.1]at ht;exact h2.2 _ k t hk ht
theorem QL.later {B:Nat}{w w':Ab}{ks:List Qy}{T:List QT} (h:QL B w ks T) (hb:Aa w.heap.size w w'):QL B w' ks T:=⟨h.1,fun j k t h1 h2=>(h.2 j k t h1 h2).later hb⟩
theorem fa_map {w:Ab}{a:Option Aq}{c:Nat}{T:List QT}:Br.FA encQ 6 w a c T↔Br.FA id 6 w a c (T.map encQ):=by
 constructor
 ·intro h;obtain⟨b,o,h1,h2⟩:=h.at_;refine⟨by rw[Ax];exact h.cap,h.max,b,o,fun hn=>h1 (by intro h0;rw[h0]at hn;exact hn rfl),fun j i x u hx hu=>?_⟩;rw[AP,D9]at hx;obtain⟨t,ht,rfl⟩:=hx;exact h2 j i t u ht hu
 ·intro h;obtain⟨b,o,h1,h2⟩:=h.at_;refine⟨by have:=h.cap;rw[Ax]at this;exact this,h.max,b,o,fun hn=>h1 (by intro h0;exact hn (List.map_eq_nil_iff.1 h0)),fun j i x u hx hu=>?_⟩;exact h2 j i (encQ x) u yJ hu
theorem KA.ts {B:Nat}{w:Ab}{a:Option Aq}{c:Nat}{ks:List Qy} (h:KA B w a c ks):∃ T,QL B w ks T/\Br.FA encQ 6 w a c T/\(ks≠[]->∀ ad,a=A3 ad->B<=ad.block):=by
 obtain⟨css,h1,h2,h3,h4⟩:=h.ex
 obtain⟨T,e,hT⟩:=Br.choose_list css (fun j (x:List Ak × QT)=>x.1=encQ x.2) (fun j cs hcs=>by
  have hj:j<ks.length:=by rw[<- h1];exact (Av.1 hcs).1
  exact (h2 j _ cs (List.getElem?_eq_getElem hj) hcs).qt)
 have he:(T.map (·.2)).map encQ=css:=by
  rw[<- e,DF];apply List.map_congr_left;intro x hx;obtain⟨j,hj⟩:=zpj;exact (hT j x hj).symm
 refine⟨T.map (·.2),⟨by rw[<- h1,<- he];simp only[Ax],fun j k t hk ht=>?_⟩,fa_map.2 (by rw[he];exact h3),fun hn ad had=>h4 (by intro h0;rw[h0]at h1;exact hn (Ar h1.symm)) ad had⟩;exact h2 j k _ hk (by rw[<- he,AP,ht];rfl)
theorem KA.of_ts {B:Nat}{w:Ab}{a:Option Aq}{c:Nat}{ks:List Qy}{T:List QT} (h:QL B w ks T) (hf:Br.FA encQ 6 w a c T) (hb:ks≠[]->∀ ad,a=A3 ad->B<=ad.block):KA B w a c ks:=by
 refine⟨T.map encQ,by rw[Ax];exact h.1,fun j k cs hk hcs=>?_,fa_map.1 hf,fun hn=>hb (by intro h0;subst h0;exact hn (by have:=h.1;rw[Ar this];rfl))⟩;rw[AP,D9]at hcs;obtain⟨t,ht,rfl⟩:=hcs;exact h.2 j k t hk ht
theorem QC.ka {B:Nat}{w:Ab}{q:Qy}{o f a b:Int}{sa ka:Option Aq}{sn sc kn kc:Nat} (h:QC B w q [.int .i64 o,.int .i64 f,.slice sa sn sc,.int .i64 a,.int .i64 b,.slice ka kn kc]):KA B w ka kc q.ks:=by
 obtain⟨sa2,sc2,ka2,kc2,e,_,_,hk⟩:=h.kids;simp only[List.cons.injEq,Value.slice.injEq,and_true]at e;obtain⟨_,_,_,_,_,rfl,_,rfl⟩:=e;exact hk
def Res (g:Nat) (l:List Tok) (x:PR) (w:Ab) (e:Ending) (w':Ab):Prop :=
 match x with
 | none=>e=.panicked [{ v:=wrongP,recovered:=false }]/\Fr g w w'
 | some (q,r')=>∃ t,e=.returned (.agg (encQ t).toArray)/\QC w.heap.size w' q (encQ t)/\PS g l r' w'/\Fr g w w'
def flat (op:Int) (k:Qy):List Qy:=if k.op=op then k.ks else [k]
theorem joined_one (op:Int) (x:Qy):joined op [x]=x:=rfl
theorem joined_many (op:Int) (l:List Qy) (h:l.length≠1):joined op l=.mk op 0 [] 0 0 (l.flatMap (flat op)):=by
 unfold joined;split
 ·simp at h
 ·rfl
theorem flat_take {op:Int}{l:List Qy}{k:Nat}{x:Qy} (h:l[k]?=A3 x):(l.take (k+1)).flatMap (flat op)=(l.take k).flatMap (flat op)++flat op x:=by
 rw[take_snoc h,AR];simp
theorem flat_len (op:Int):∀ l:List Qy,(l.flatMap (flat op)).length<=nodesL l
 | []=>by simp[nodesL]
 | .mk o f ws a b ks::r=>by
  have h1:=flat_len op r;have h2:=ks_nodes ks
  have h3:(flat op (.mk o f ws a b ks)).length<=1+nodesL ks:=by
   unfold flat;split
   ·exact Au h2 oQ
   ·simp
  simp only[List.flatMap_cons,Ag,nodesL,nodes];omega
theorem nodesL_take (l:List Qy) (k:Nat):nodesL (l.take k)<=nodesL l:=by
 have:=nodesL_app (l.take k) (l.drop k);rw[List.take_append_drop]at this;omega
end Qr
theorem Tx.put6 {B g:Nat}{w wr:Ab} (h:Aa B w wr) (hg:B<=g) (v0 v1 v2 v3 v4 v5:Ak):Aa B w ((((((wr.setCell ⟨g,0,A0⟩ v0).setCell ⟨g,1,A0⟩ v1).setCell ⟨g,2,A0⟩ v2).setCell ⟨g,3,A0⟩ v3).setCell ⟨g,4,A0⟩ v4).setCell ⟨g,5,A0⟩ v5) :=
 (((((h.setCell hg _).setCell hg _).setCell hg _).setCell hg _).setCell hg _).setCell hg _
theorem Tx.blk_set {w:Ab}{g i:Nat}{cs:Array Ak}{t:TypeId} (h:w.heap[g]?=A3 (.cells cs t (0,0))) (u:Ak):(w.setCell ⟨g,i,A0⟩ u).heap[g]?=A3 (.cells (cs.setIfInBounds i u) t (0,0)):=by
 have hg:=(AA.1 h).1;simp only[B5,Dy];rw[h];simp
theorem joined_1 (B:Nat) (op:Int) (x:Qr.Qy) (a:Option Aq) (c:Nat) (w:Ab) (hK:Qr.KA B w a c [x]) :
  Af A8 197 #[.int .i64 op,.slice a 1 c] w fun e w'=>∃ t,e=.returned (.agg (Qr.encQ t).toArray)/\Qr.QC B w' x (Qr.encQ t)/\Aa w.heap.size w w':=by
 obtain⟨W,hW⟩:=zeh;have hB:=zi;obtain⟨rc,rf,rl⟩:=zbx;obtain⟨c0,c1,c2,c3,c4,c5⟩:=Tx.d6 rc;clear rc;obtain⟨b,o,sa,sc,ka,kc,rfl,hbl,d0,d1,d2,d3,d4,d5,hq⟩:=hK.get (k:=0) rfl;rw[Nat.zero_mul,BN]at d0 d1 d2 d3 d4 d5;replace d0:=A4 hB d0;replace d1:=A4 hB d1;replace d2:=A4 hB d2;replace d3:=A4 hB d3;replace d4:=A4 hB d4;replace d5:=A4 hB d5;have HQ:=J hq;clear hq hK hbl;have hP:=zcm;have HP:=J hP;clear hP;go_enter Tryz.func197,Tryz.ntmps197;go_wp2;refine Aw (v:=.agg #[.int .i64 x.op,.int .i64 x.fld,.slice sa x.ws.length sc,.int .i64 x.a,.int .i64 x.b,.slice ka x.ks.length kc]) (by simp[results,Tryz.results197,go_sem,c0,c1,c2,c3,c4,c5]) rfl ⟨⟨x.op,x.fld,sa,x.ws.length,sc,x.a,x.b,ka,x.ks.length,kc⟩,rfl,HQ.out.later HP.out,HP.out⟩
theorem joined_m (B:Nat) (op:Int) (l:List Qr.Qy) (a:Option Aq) (c:Nat) (w:Ab) (hK:Qr.KA B w a c l) (h1:l.length≠1) (hn:Qr.nodesL l<=1000000) (hBw:B<=w.heap.size) :
  Af A8 197 #[.int .i64 op,.slice a l.length c] w fun e w'=>∃ t,e=.returned (.agg (Qr.encQ t).toArray)/\Qr.QC B w' (Qr.joined op l) (Qr.encQ t)/\Aa w.heap.size w w':=by
 obtain⟨i0,hi0,hz0,hz1,hz2⟩:=zms;have HI:=J hi0;clear hi0;have hll:=Qr.ks_nodes l;have HJ:=J (Qr.joined_many op l h1);have hl1:¬ ((l.length:Int)=1):=oQ;have hl2:=znf;clear h1;have hmx:maxLen=9223372036854775807:=rfl;go_enter Tryz.func197,Tryz.ntmps197;go_wp2;go_loopw [18] (fun i wr=>∃ (k:Nat) (T:List Qr.QT) (v:Ak),k<=l.length/\i=.int .i64 k/\Qr.QL B w ((l.take k).flatMap (Qr.flat op)) T/\wr.ownsRow (w.heap.size+2) 29 6 v T.length (T.flatMap Qr.encQ)/\wr.heap[w.heap.size+1]?=A3 (.cells #[.int .i64 op,.int .i64 0,.slice A0 0 0,.int .i64 0,.int .i64 0,v] 29 (0,0))/\wr.heap[w.heap.size]?=A3 (.cells #[.int .i64 0,.int .i64 0,.slice A0 0 0,.int .i64 0,.int .i64 0,.slice A0 0 0] 29 (0,0))/\Aa w.heap.size w wr) (fun i _=>l.length - (intOf i).toNat)
 case atStart=>exact⟨0,[],.slice A0 0 0,Nat.zero_le _,rfl,by rw[List.take_zero];exact Qr.QL.nil _ _,World.ownsRow_nil _ _ _ _,by have:=Ae (w.alloc (.cells #[.int .i64 0,.int .i64 0,.slice A0 0 0,.int .i64 0,.int .i64 0,.slice A0 0 0] 29)) (.cells #[.int .i64 op,.int .i64 0,.slice A0 0 0,.int .i64 0,.int .i64 0,.slice A0 0 0] 29);simpa using this,A6 (Ae w _) (A9 _ _),(A9 _ _).trans ((A9 _ _).mono oZ)⟩
 case round =>
  obtain⟨k,T,v,hk,rfl,hT,hown,hQ,hR,hb⟩:=hrel
  have hTl:T.length<=1000000:=by
   rw[hT.1];have h1:=Qr.flat_len op (l.take k);have h2:=Qr.nodesL_take l k;omega
  have hsz:=hb.size;have hQl:=(AA.1 hQ).1;have hfar:∀ g,g<w.heap.size+2->A3 g≠v.ownBlock:=fun g hg e=>by have:=(hown.lt g e.symm).1;omega
  have HF:=J hfar;clear hfar;obtain⟨va,vc,rfl,_,_,_⟩:=Br.own_any Qr.encQ_len hown rfl;by_cases hlt:k<l.length
  ·obtain⟨x,hx⟩:=zcq;obtain⟨b,o,sa2,sc2,ka2,kc2,rfl,hbl,d0,d1,d2,d3,d4,d5,hq⟩:=hK.get hx;have hxn:=Qr.nodes_kid (List.mem_of_getElem? hx);have hft:=Qr.flat_take (op:=op) hx;obtain⟨T2,hT2,hFA,hlow⟩:=hq.ka.ts;have hT2l:=hT2.1
   have hkn:x.ks.length<=1000000:=by
    have h1:=Qr.ks_nodes x.ks;cases x;simp only[Qr.nodes,Qr.Qy.ks]at *;omega
   replace d0:=A4 hb d0;replace d1:=A4 hb d1;replace d2:=A4 hb d2;replace d3:=A4 hb d3;replace d4:=A4 hb d4;replace d5:=A4 hb d5;have HQ:=J hq;clear hq;have HFT:=J hft;clear hft hx hlow;have HL2:=J hT2l;clear hT2l;have HT2:=J hT2;clear hT2;have HT:=J hT;clear hT;by_cases hxo:x.op=op
   ·have HO:=J hxo;rw[hxo]at d0;clear hxo;have HFL:=zjl;have kq:=A6 hQ (A9 wr (.cells #[.int .i64 op,.int .i64 x.fld,.slice sa2 x.ws.length sc2,.int .i64 x.a,.int .i64 x.b,.slice ka2 x.ks.length kc2] 29));have kr:=A6 hR (A9 wr (.cells #[.int .i64 op,.int .i64 x.fld,.slice sa2 x.ws.length sc2,.int .i64 x.a,.int .i64 x.b,.slice ka2 x.ks.length kc2] 29));have q5:=(A7 kq).1 5;go_wp2_with (at_builtin;go_must (refine wpList_append_sl rfl _ _ 27 rfl (w.heap.size+2) 29 i0 _ 6 80 DG HI.out hz0 hz1 hz2 rfl oX _ T.length _ rfl (hown.alloc _) ka2 x.ks.length kc2 (T2.flatMap Qr.encQ) rfl zsa zse ((hFA.below (hb.trans ((A9 _ _).mono hb.size))).cells Qr.encQ_len oQ) (Qr.encQ_ones T2) oK oQ oW ?_);intro v' w2 hown2 hg2 hnil2;have hown3:w2.ownsRow (w.heap.size+2) 29 6 v' (T++T2).length ((T++T2).flatMap Qr.encQ):=(by rw[Ag,AR,HL2.out];exact hown2);clear hown2;obtain⟨va3,vc3,rfl,_,_,_⟩:=Br.own_any Qr.encQ_len hown3 rfl;rw[Ag]at hown3;have kq2:=(hg2.block _ (AA.1 kq).1 (HF.out _ oQ)).trans kq;have kr2:=(hg2.block _ (AA.1 kr).1 (HF.out _ oQ)).trans kr;obtain⟨qc2,qf2,ql2⟩:=A7 kq2;have q52:=qc2 5);go_roundw
    case rel=>exact⟨k+1,T++T2,_,hlt,by go_num,by rw[HFT.out,HFL.out];exact HT.out.app HT2.out,by rw[Ag];exact ownsRow_setCell_below hown3 (show w.heap.size+1<w.heap.size+2 by omega) _,by have:=Tx.blk_set (i:=5) kq2 (.slice va3 (T.length+T2.length) vc3);simpa using this,As kr2 (show w.heap.size≠w.heap.size+1 by omega) _,((hb.trans ((A9 _ _).mono hb.size)).grown hg2 oW OW).setCell (show w.heap.size<=w.heap.size+1 by omega) _⟩
    case measure=>simp[intOf];omega
   ·have HFL:=zkn;have kq:=A6 hQ (A9 wr (.cells #[.int .i64 x.op,.int .i64 x.fld,.slice sa2 x.ws.length sc2,.int .i64 x.a,.int .i64 x.b,.slice ka2 x.ks.length kc2] 29));have kr:=A6 hR (A9 wr (.cells #[.int .i64 x.op,.int .i64 x.fld,.slice sa2 x.ws.length sc2,.int .i64 x.a,.int .i64 x.b,.slice ka2 x.ks.length kc2] 29));have q5:=(A7 kq).1 5;have kq1:=A6 kq (A9 _ (.cells #[.int .i64 x.op,.int .i64 x.fld,.slice sa2 x.ws.length sc2,.int .i64 x.a,.int .i64 x.b,.slice ka2 x.ks.length kc2] 29));have kr1:=A6 kr (A9 _ (.cells #[.int .i64 x.op,.int .i64 x.fld,.slice sa2 x.ws.length sc2,.int .i64 x.a,.int .i64 x.b,.slice ka2 x.ks.length kc2] 29));go_wp2_with (at_builtin;go_must (refine wpList_append_sl rfl _ _ 27 rfl (w.heap.size+2) 29 i0 _ 6 80 DG HI.out hz0 hz1 hz2 rfl oX _ T.length _ rfl ((hown.alloc _).alloc _) (A3 ⟨_,0,A0⟩) 1 1 [.int .i64 x.op,.int .i64 x.fld,.slice sa2 x.ws.length sc2,.int .i64 x.a,.int .i64 x.b,.slice ka2 x.ks.length kc2] rfl rfl oF oD oG oK oQ oW ?_);intro v' w2 hown2 hg2 hnil2;have hown3:w2.ownsRow (w.heap.size+2) 29 6 v' (T++[(⟨x.op,x.fld,sa2,x.ws.length,sc2,x.a,x.b,ka2,x.ks.length,kc2⟩:Qr.QT)]).length ((T++[(⟨x.op,x.fld,sa2,x.ws.length,sc2,x.a,x.b,ka2,x.ks.length,kc2⟩:Qr.QT)]).flatMap Qr.encQ):=(by rw[Ag,AR];exact hown2);clear hown2;obtain⟨va3,vc3,rfl,_,_,_⟩:=Br.own_any Qr.encQ_len hown3 rfl;rw[Ag]at hown3;have kq2:=(hg2.block _ (AA.1 kq1).1 (HF.out _ oQ)).trans kq1;have kr2:=(hg2.block _ (AA.1 kr1).1 (HF.out _ oQ)).trans kr1;obtain⟨qc2,qf2,ql2⟩:=A7 kq2;have q52:=qc2 5);go_roundw
    case rel=>exact⟨k+1,T++[⟨x.op,x.fld,sa2,x.ws.length,sc2,x.a,x.b,ka2,x.ks.length,kc2⟩],_,hlt,by go_num,by rw[HFT.out,HFL.out];exact HT.out.app (Qr.QL.one HQ.out),by rw[Ag];exact ownsRow_setCell_below hown3 (show w.heap.size+1<w.heap.size+2 by omega) _,by have:=Tx.blk_set (i:=5) kq2 (.slice va3 (T.length+1) vc3);simpa using this,As kr2 (show w.heap.size≠w.heap.size+1 by omega) _,(((hb.trans ((A9 _ _).mono hb.size)).trans ((A9 _ _).mono oW)).grown hg2 oW OW).setCell (show w.heap.size<=w.heap.size+1 by omega) _⟩
    case measure=>simp[intOf];omega
  ·have hkk:k=l.length:=oQ;subst hkk;rw[List.take_length]at hT;obtain⟨qc,qf,ql⟩:=A7 hQ;obtain⟨rc,rf,rl⟩:=A7 hR;have q0:=qc 0;have q1:=qc 1;have q2:=qc 2;have q3:=qc 3;have q4:=qc 4;have q5:=qc 5;have r0:=rc 0;have r1:=rc 1;have r2:=rc 2;have r3:=rc 3;have r4:=rc 4;have r5:=rc 5;clear qc qf ql rc;have hTL:T.length=(l.flatMap (Qr.flat op)).length:=hT.1;obtain⟨va9,vc9,e3,hFA3,hlow3⟩:=Br.FA.of_own Qr.encQ_len hown rfl;injection e3 with e3a _ e3b;subst e3a;subst e3b;have hP:=zjr;have HP:=J hP;clear hP;have HTL:=J hTL;clear hTL
   have hkeep:∀ (w':Ab),Aa w.heap.size w w'->(∀ g,w.heap.size<g->g<wr.heap.size->w'.heap[g]?=wr.heap[g]?)->wr.heap.size<=w'.heap.size->Qr.QC B w' (Qr.joined op l) [.int .i64 op,.int .i64 0,.slice A0 0 0,.int .i64 0,.int .i64 0,.slice va (l.flatMap (Qr.flat op)).length vc]:=by
    intro w' hb' hsame hle;rw[HJ.out];refine Qr.QC.of_kids (ws:=[]) (.inl ⟨rfl,_,_,rfl⟩) (fun h=>absurd rfl h) (Qr.KA.of_ts (hT.later hb') ?_ (fun hn ad had=>by have:=hlow3 ad had;omega));obtain⟨bb,oo,f1,f2⟩:=hFA3.at_;refine⟨hFA3.cap,hFA3.max,bb,oo,fun hn=>⟨(f1 hn).1,AN (f1 hn).2 hle⟩,fun j i t u ht hu=>?_⟩;have hne:T≠[]:=by intro h0;rw[h0]at ht;simp at ht
    have hbb:=hlow3 _ (f1 hne).1;exact (Ce (w:=wr) (hsame bb (by simp only at hbb;omega) (f1 hne).2)).trans (f2 j i t u ht hu)
   have HK:=J hkeep;clear hkeep;clear hFA3 hlow3 hown hT;go_wp2;refine Aw (v:=.agg #[.int .i64 op,.int .i64 0,.slice A0 0 0,.int .i64 0,.int .i64 0,.slice va T.length vc]) (by simp[results,Tryz.results197,go_sem,r0,r1,r2,r3,r4,r5]) rfl ⟨⟨op,0,A0,0,0,0,0,va,T.length,vc⟩,rfl,by rw[show Qr.encQ ⟨op,0,A0,0,0,0,0,va,T.length,vc⟩=[.int .i64 op,.int .i64 0,.slice A0 0 0,.int .i64 0,.int .i64 0,.slice va (l.flatMap (Qr.flat op)).length vc] by rw[<- HTL.out]];exact HK.out _ (HP.out _ _ _ _ _ _) (fun g hg1 hg2=>by simp only[B5,Dy];repeat rw[if_neg oQ]) eX,HP.out _ _ _ _ _ _⟩
section
attribute [local go_sem] Qr.run_tok0 Qr.run_tok1 Qr.run_tok2
namespace Qr
theorem wordsB_bys {xs:List ByteArray}{t:By} (h:xs.map (·.data.toList)=Tx.words t):xs=wordsB t:=by
 unfold wordsB;rw[<- h,DF]
 conv=>lhs;rw[<- List.map_id xs]
 rfl
theorem lk_mem {r:List Tok} (h:(lk r).k≠0):lk r∈r:=by
 cases r with
 | nil=>exact absurd rfl h
 | cons t l=>exact List.mem_cons_self
theorem PS.tok {g:Nat}{l r:List Tok}{w:Ab} (h:PS g l r w) (hk:(lk r).k≠0):Tx.valid (lk r).t=true/\(lk r).t.length<=1000 :=
 h.ok _ (h.suf.subset (lk_mem hk))
abbrev zeroQ:Array Ak:=#[.int .i64 0,.int .i64 0,.slice A0 0 0,.int .i64 0,.int .i64 0,.slice A0 0 0]
end Qr
theorem look0 {g:Nat}{l r:List AM}{kk:UInt8}{tt:List UInt8}{tg:Bool}{K:Int}{w:Ab} (ht:AT r=⟨kk,tt,tg⟩) (hK:(kk.toNat:Int)=K) (hP:Qr.PS g l r w) :
  Af A8 252 #[.pointer (A3 ⟨g,0,A0⟩),.int .i64 0] w fun e w'=>e=.returned (.agg #[.int .u8 K,.string ⟨tt.toArray⟩,.bool tg])/\Aa w.heap.size w w':=by
 have:=look_c g 0 0 l r w rfl oQ hP;rw[AU,ht]at this;simp only[hK]at this;exact this
theorem look1 {g:Nat}{l r:List AM}{kk:UInt8}{tt:List UInt8}{tg:Bool}{K:Int}{w:Ab} (ht:F1 r=⟨kk,tt,tg⟩) (hK:(kk.toNat:Int)=K) (hP:Qr.PS g l r w) :
  Af A8 252 #[.pointer (A3 ⟨g,0,A0⟩),.int .i64 1] w fun e w'=>e=.returned (.agg #[.int .u8 K,.string ⟨tt.toArray⟩,.bool tg])/\Aa w.heap.size w w':=by
 have:=look_c g 1 1 l r w rfl oQ hP;rw[List.drop_one,show AT r.tail=⟨kk,tt,tg⟩ from ht]at this;simp only[hK]at this;exact this
theorem term_glue (g:Nat) (l r:List AM) (w:Ab) (hP:Qr.PS g l r w) (hg:Qr.glue 58 r=true) :
  Af A8 303 #[.pointer (A3 ⟨g,0,A0⟩)] w fun e w'=>e=.panicked [{ v:=Qr.wrongP,recovered:=false }]/\Aa w.heap.size w w':=by
 obtain⟨⟨tk,tt,tg⟩,ht⟩:=zgn;obtain⟨⟨nk,nt,ng⟩,hn⟩:=zrw;unfold Qr.glue at hg;rw[ht,hn]at hg;simp only[Bool.and_eq_true,beq_iff_eq]at hg;obtain⟨⟨k1,k2⟩,k3⟩:=hg;subst k1 k2 k3;have L0:=fun w h=>look0 (K:=114) (w:=w) (g:=g) (l:=l) ht rfl h;have L1:=fun w h=>look1 (K:=58) (w:=w) (g:=g) (l:=l) hn rfl h;clear ht hn;have hP0:=zr;go_enter ES,Et
 go_wp2_with (first
  |(go_at_call 252;refine (L1 _ (hP1.below (A9 _ _))).mono ?_;rintro e w2 ⟨rfl,hb2⟩;obtain⟨e0,-⟩:=Tx.c1 (A6 (A6 (Ae w1 (.cells #[.int .u8 114,.string ⟨tt.toArray⟩,.bool tg] 205)) hb2) (A9 w2 (.cells #[.int .u8 58,.string ⟨nt.toArray⟩,.bool true] 205))))
  |(go_at_call 252;refine (L0 _ hP0).mono ?_;rintro e w1 ⟨rfl,hb1⟩;have hP1:=zng))
 exact⟨rfl,rfl,(A9 w _).trans ((hb1.trans (((A9 _ _).trans ((hb2.trans ((A9 _ _).mono hb2.size)).mono oZ)).mono hb1.size)).mono oZ)⟩
namespace Qr
structure Kp (M:Nat) (w w':Ab):Prop where
 size:w.heap.size<=w'.heap.size
 block:∀ k,M<=k->k<w.heap.size->w'.heap[k]?=w.heap[k]?
theorem Kp.refl (M:Nat) (w:Ab):Kp M w w:=⟨Ad _,fun _ _ _=>rfl⟩
theorem Kp.trans {M:Nat}{a b c:Ab} (h:Kp M a b) (k:Kp M b c):Kp M a c:=⟨Au h.size k.size,fun i h1 h2=>(k.block i h1 (AN h2 h.size)).trans (h.block i h1 h2)⟩
theorem Kp.below {M:Nat}{w w':Ab} (h:Aa w.heap.size w w'):Kp M w w':=⟨h.size,fun k _ h2=>h.block k h2⟩
theorem Kp.set {M:Nat}{a w:Ab} (h:Kp M a w) {p:Aq} (hp:p.block<M) (u:Ak):Kp M a (w.setCell p u) :=
 h.trans ⟨by simp[B5],fun k hk _=>Below.heap_setCell _ _ _ _ oQ⟩
theorem Kp.put6 {M g:Nat}{a w:Ab} (h:Kp M a w) (hg:g<M) (v0 v1 v2 v3 v4 v5:Ak):Kp M a ((((((w.setCell ⟨g,0,A0⟩ v0).setCell ⟨g,1,A0⟩ v1).setCell ⟨g,2,A0⟩ v2).setCell ⟨g,3,A0⟩ v3).setCell ⟨g,4,A0⟩ v4).setCell ⟨g,5,A0⟩ v5) :=
 (((((h.set hg _).set hg _).set hg _).set hg _).set hg _).set hg _
theorem Kp.sl {M A c:Nat}{w w':Ab}{xs:List ByteArray} (h:SLA w (A3 ⟨A,0,A0⟩) c xs) (hA:M<=A) (hK:Kp M w w'):SL w' (.slice (A3 ⟨A,0,A0⟩) xs.length c) xs:=by
 by_cases hne:xs=[]
 ·exact .inl ⟨hne,_,_,by rw[hne];rfl⟩
 ·obtain⟨b,o,h1,h2⟩:=h.at_;obtain⟨e,hb⟩:=h1 hne;injection e with e;injection e with e1 e2;subst e1 e2;exact .inr ⟨A,0,c,rfl,h.cap,h.max,AN hb hK.size,fun j x hx=>(Ce (w:=w) (hK.block A hA hb)).trans (h2 j x hx)⟩
theorem Kp.sl2 {M:Nat}{w w':Ab}{v:Ak}{xs:List ByteArray} (h:SL w v xs) (hl:LowS M v xs) (hK:Kp M w w'):SL w' v xs:=by
 rcases h with h1 | ⟨b,o,c,h1,h2,h3,h4,h5⟩
 ·exact .inl h1
 ·by_cases hne:xs=[]
  ·exact .inl ⟨hne,_,_,by rw[h1,hne];rfl⟩
  ·have hb:=hl hne _ _ _ h1;exact .inr ⟨b,o,c,h1,h2,h3,AN h4 hK.size,fun j x hx=>(Ce (w:=w) (hK.block b hb h4)).trans (h5 j x hx)⟩
theorem Kp.fa {M:Nat}{α:Type}{enc:α->List Ak}{size:Nat}{w w':Ab}{a:Option Aq}{c:Nat}{xs:List α} (hf:Br.FA enc size w a c xs) (hb:xs≠[]->∀ ad,a=A3 ad->M<=ad.block) (hK:Kp M w w'):Br.FA enc size w' a c xs:=by
 obtain⟨b,o,h1,h2⟩:=hf.at_;by_cases hne:xs=[]
 ·subst hne;exact⟨hf.cap,hf.max,b,o,fun h9=>absurd rfl h9,fun j i x u hx=>by simp at hx⟩
 ·have h3:=hb hne _ (h1 hne).1;exact⟨hf.cap,hf.max,b,o,fun hn=>⟨(h1 hn).1,AN (h1 hn).2 hK.size⟩,fun j i x u hx hu=>(Ce (w:=w) (hK.block b h3 (h1 hne).2)).trans (h2 j i x u hx hu)⟩
theorem QC.kp {B:Nat}{w w':Ab}{q:Qy}{cs:List Ak} (h:QC B w q cs) (hK:Kp B w w'):QC B w' q cs:=by
 induction h with
 | mk hw hwb hl _ hf hfb ih=>exact .mk (Kp.sl2 hw hwb hK) hwb hl (fun j k cs h1 h2=>ih j k cs h1 h2) (Kp.fa hf hfb hK) hfb
theorem Kp.fr {g M:Nat}{w w':Ab} (h:Fr g w w') (hM:g<M):Kp M w w':=⟨h.size,fun k h1 h2=>h.block k oQ h2⟩
theorem Kp.mono {M M':Nat}{w w':Ab} (h:Kp M w w') (hM:M<=M'):Kp M' w w':=⟨h.size,fun k h1 h2=>h.block k oQ h2⟩
theorem Res.get {g:Nat}{l:List Tok}{q:Qy}{r':List Tok}{w w':Ab}{e:Ending} (h:Res g l (A3 (q,r')) w e w'):∃ o f a b sa sn sc ka kn kc,e=.returned (.agg #[.int .i64 o,.int .i64 f,.slice sa sn sc,.int .i64 a,.int .i64 b,.slice ka kn kc])/\QC w.heap.size w' q [.int .i64 o,.int .i64 f,.slice sa sn sc,.int .i64 a,.int .i64 b,.slice ka kn kc]/\PS g l r' w'/\Fr g w w':=by
 obtain⟨⟨o,f,sa,sn,sc,a,b,ka,kn,kc⟩,h1,h2,h3,h4⟩:=h;exact⟨o,f,a,b,sa,sn,sc,ka,kn,kc,h1,h2,h3,h4⟩
theorem Res.bad {g:Nat}{l:List Tok}{w w':Ab}{e:Ending} (h:Res g l A0 w e w'):e=.panicked [{ v:=wrongP,recovered:=false }]/\Fr g w w':=h
theorem Fr.put6 {g R:Nat}{a w:Ab} (h:Fr g a w) (hg:a.heap.size<=R) (v0 v1 v2 v3 v4 v5:Ak):Fr g a ((((((w.setCell ⟨R,0,A0⟩ v0).setCell ⟨R,1,A0⟩ v1).setCell ⟨R,2,A0⟩ v2).setCell ⟨R,3,A0⟩ v3).setCell ⟨R,4,A0⟩ v4).setCell ⟨R,5,A0⟩ v5) :=
 (((((h.setNew hg _).setNew hg _).setNew hg _).setNew hg _).setNew hg _).setNew hg _
theorem far6 {g R:Nat}{w:Ab}{o:Obj} (h:w.heap[g]?=A3 o) (hg:g≠R) (v0 v1 v2 v3 v4 v5:Ak):((((((w.setCell ⟨R,0,A0⟩ v0).setCell ⟨R,1,A0⟩ v1).setCell ⟨R,2,A0⟩ v2).setCell ⟨R,3,A0⟩ v3).setCell ⟨R,4,A0⟩ v4).setCell ⟨R,5,A0⟩ v5).heap[g]?=A3 o :=
 As (As (As (As (As (As h hg _) hg _) hg _) hg _) hg _) hg _
theorem PS.of' {g:Nat}{l r r':List Tok}{w w':Ab}{ta:Option Aq}{tc:Nat}{v:Ak}{m:Int} (h:PS g l r w) (hk:w.heap[g]?=A3 (.cells #[.slice ta l.length tc,v] 129 (0,0))) (hB:Aa g w w') (hr:r' <:+ r)
  (hk':w'.heap[g]?=A3 (.cells #[.slice ta l.length tc,.int .i64 m] 129 (0,0))) (hm:m=((l.length - r'.length:Nat):Int)):PS g l r' w':=by
 have hgp:GP g w':=by
  obtain⟨w0,h1,h2,h3⟩:=h.gp;exact⟨w0,h1,h2,h3.trans (hB.mono h2)⟩
 obtain⟨ta2,tc2,h1,h2,h3⟩:=h.blk;rw[hk]at h1;injection h1 with h1;simp only[Obj.cells.injEq,Array.mk.injEq,List.cons.injEq,Value.slice.injEq]at h1;obtain⟨⟨⟨rfl,_,rfl⟩,_⟩,_⟩:=h1;refine⟨hr.trans h.suf,h.len,h.ok,hgp,ta,tc,by rw[<- hm];exact hk',?_,h3⟩;obtain⟨b,o,f1,f2⟩:=h2.at_;refine⟨h2.cap,h2.max,b,o,fun hn=>⟨(f1 hn).1,AN (f1 hn).2 hB.size⟩,fun j i x u hx hu=>?_⟩;have hne:l≠[]:=by intro h0;rw[h0]at hx;simp at hx
 have hb:=h3 _ (f1 hne).1;exact (Ce (w:=w) (hB.block b hb)).trans (f2 j i x u hx hu)
theorem PS.of {g:Nat}{l r r':List Tok}{w w':Ab}{ta:Option Aq}{tc:Nat}{v:Ak}{m:Int} (h:PS g l r w) (hk:w.heap[g]?=A3 (.cells #[.slice ta l.length tc,v] 129 (0,0))) (hF:Fr g w w') (hr:r' <:+ r)
  (hk':w'.heap[g]?=A3 (.cells #[.slice ta l.length tc,.int .i64 m] 129 (0,0))) (hm:m=((l.length - r'.length:Nat):Int)):PS g l r' w' :=
 h.of' hk (hF.below (Ad _) h.lt) hr hk' hm
end Qr
end
section
attribute [local go_sem] Qr.run_tok0 Qr.run_tok1 Qr.run_tok2
theorem Qr.KA.nil (B:Nat) (w:Ab):Qr.KA B w A0 0 [] :=
 ⟨[],rfl,fun j k cs h=>by simp at h,⟨Ad _,oZ,0,0,fun h=>absurd rfl h,fun j i x u h=>by simp at h⟩,fun h=>absurd rfl h⟩
theorem un1 (h:P:=by
 go_enter ES,Et
 go_wp2_with (first
  |(go_at_call 208;refine (text_Words_c ⟨tt.toArray⟩ _ hPS3.gp.g hsz HV.out).mono ?_;rintro e w4 ⟨A',xs,rfl,hws,hSLA,hA',hb4⟩;obtain rfl:xs=[]:=OX;clear hws;have s4:=hb4.size;have hPS4:=hPS3.below hb4;have KG4:=zno;have KT4:=znp;have KR4:=zjm;have hF4:=hF3.trans (.of_below hb4);clear eg fg e30 e31)
  |(go_at_call 252;refine (L1 _ (hP1.below (A9 _ _))).mono ?_;rintro e w2 ⟨he,hb2⟩;have ew2:=zps;subst he;have s1:=zbc;have s2:=zdv;have kT2:=zel;have kg2:=zas;have kR2:=zbe;have hF2:=zbb;obtain⟨e30,-⟩:=Tx.c1 kT2;obtain⟨-,e31⟩:=zld;obtain⟨-,eg,fg⟩:=zpo;have kg3:=zlp;have hF3:=zko;have hPS3:=zga;have kT3:=zdj;have kR3:=zdm;have KG3:=J kg3;have KT3:=J kT3;have KR3:=zrm;clear kg2 kT2 kR2 kg3 kT3 kR3)
  |(go_at_call 252;refine (L0 _ hP0).mono ?_;rintro e w1 ⟨rfl,hb1⟩;have hP1:=zng))
 exact⟨rfl,rfl,hF4⟩):P:=h
theorem v0v (h:P:=by
 have hk1:=zgd;have htok:=hP.tok hk1;rw[ht]at htok;simp only at htok;have hsz:(⟨tt.toArray⟩:ByteArray).size<=1000000000:=by rw[Tx.size_mk];omega
 have hte:=zfl;have hsl:=hP.suf.length_le;have hll:=hP.len;have L0:=zw;have L1:=zbi;have L2:=fun w h=>look0 (r:=r.tail) (K:=N) (w:=w) (g:=g) (l:=l) hn hN h;obtain⟨ta,tc,kg,_,_⟩:=hP.blk;obtain⟨A,hA⟩:=zap;rw[hA]at kg;have hA1:=ze;have hw1:=zag;have hw2:=IntWalk.i64_in ((A:Int)+1+1) ⟨oQ,oQ⟩;have hgl:=hP.lt;have hP0:=zr;obtain⟨xs0,hxs0⟩:∃ xs0,Bp tt=xs0:=⟨_,rfl⟩;have HXS:=J hxs0;clear hxs0;have KG:=J kg;clear kg;have HA1:=J hA1;clear hA1;have HV:=J htok.1;clear htok;have HTE:=J hte;clear hte;have HPP:=J hP;clear hP;clear ht hn hK hN hk0 hA hk1
 first
  |guard_hyp hnk0;have hx0:xs0≠[]:=by rw[<- HXS.out];exact hx
   rw[HXS.out];clear hx;have hxn:=zfc;have hxn2:=zil;clear hx0
   have hA2:(A:Int)+1+1=((l.length - r.tail.tail.length:Nat):Int):=by
    have h1:=HA1.out;have h2:=(Qr.tail_eats hk2).2;have h3:=HTE.out.1.length_le;rw[Cl]at h2;rw[Cl (l:=r.tail)];omega
   have HA2:=J hA2;clear hA2 hk2 hnk0;obtain⟨rfl,rfl,rfl⟩:=hpass;by_cases h1:1<xs0.length
   ·rw[if_pos h1];exact uzs
   ·rw[if_neg h1];go_enter ES,Et
    go_wp2_with (first
     |(go_at_call 252;refine (L2 _ hPS4).mono ?_;rintro e w5 ⟨he,hb5⟩;have ew5:=Tx.nr he w5;subst he;have s5:=hb5.size;have kT5:=A6 (A6 KT4.out hb5) ew5;have kR5:=A6 (A6 KR4.out hb5) ew5;have kg5:=A6 (A6 KG4.out hb5) ew5;have hF5:=zoq;obtain⟨e50,-⟩:=Tx.c1 kT5;obtain⟨kc5,kf5,kl5⟩:=A7 kR5;obtain⟨z0,z1,z2,z3,z4,z5⟩:=Tx.d6 kc5;obtain⟨-,eg5,fg5⟩:=Tx.c2 kg5;obtain⟨y0,y1,y2,y3,y4,y5⟩:=Tx.f6 kR5 (show w.heap.size≠g by omega);have KG5:=J kg5;have KR5:=J kR5;clear kT5 kg5 kR5 kc5)
     |(go_at_call 208;refine (text_Words_c ⟨tt.toArray⟩ _ hPS3.gp.g hsz HV.out).mono ?_;rintro e w4 ⟨A',xs,rfl,hws,hSLA,hA',hb4⟩;obtain rfl:xs=xs0:=OX;clear hws;have s4:=hb4.size;have hPS4:=hPS3.below hb4;have KG4:=zno;have KT4:=znp;have KR4:=zjm;have hF4:=hF3.trans (.of_below hb4);clear eg fg e30 e31)
     |(go_at_call 252;refine (L1 _ (hP1.below (A9 _ _))).mono ?_;rintro e w2 ⟨he,hb2⟩;have ew2:=zps;subst he;have s1:=zbc;have s2:=zdv;have kT2:=zel;have kg2:=zas;have kR2:=zbe;have hF2:=zbb;obtain⟨e30,-⟩:=Tx.c1 kT2;obtain⟨-,e31⟩:=zld;obtain⟨-,eg,fg⟩:=zpo;have kg3:=zlp;have hF3:=zko;have hPS3:=zga;have kT3:=zdj;have kR3:=zdm;have KG3:=J kg3;have KT3:=J kT3;have KR3:=zrm;clear kg2 kT2 kR2 kg3 kT3 kR3)
     |(go_at_call 252;refine (L0 _ hP0).mono ?_;rintro e w1 ⟨rfl,hb1⟩;have hP1:=zng))
    refine Aw (v:=.agg #[.int .i64 2,.int .i64 0,.slice (A3 ⟨A',0,A0⟩) xs.length xs.length,.int .i64 0,.int .i64 0,.slice A0 0 0]) (by simp[results,Gh,go_sem,y0,y1,y2,y3,y4,y5]) rfl ⟨⟨2,0,A3 ⟨A',0,A0⟩,xs.length,xs.length,0,0,A0,0,0⟩,rfl,Qr.QC.of_kids (ks:=[]) (Qr.Kp.sl hSLA zsd (Qr.Kp.put6 (M:=w.heap.size+1) (((Qr.Kp.below hb5).trans (Qr.Kp.below (A9 w5 _))).set (show g<w.heap.size+1 by omega) _) oQ _ _ _ _ _ _)) YX (Qr.KA.nil _ _),Qr.PS.of HPP.out KG.out (Qr.Fr.put6 (hF5.set rfl _) (Ad _) _ _ _ _ _ _) ((List.tail_suffix _).trans HTE.out.1) (Qr.far6 (Qr.blk_set1 KG5.out _) (show g≠w.heap.size by omega) _ _ _ _ _ _) HA2.out,(Qr.Fr.put6 (hF5.set rfl _) (Ad _) _ _ _ _ _ _)⟩
  |guard_hyp hstar;have hx0:xs0≠[]:=by rw[<- HXS.out];exact hx
   rw[HXS.out];clear hx;have hxn:=zfc;have hxn2:=zil;clear hx0;obtain⟨OP,hOP⟩:∃ OP:Int,(if K=114/\xs0.length=1 then 1 else 3)=OP:=⟨_,rfl⟩;rw[hOP];have HOP:=J hOP;clear hOP
   have hsp:((K == 114)=false)\/(K=114/\(N == 58)=false/\(N == 42)=false)\/(K=114/\N=58/\ng=false)\/(K=114/\N=42/\ng=false):=by
    rcases hpass with h | ⟨h1,h2⟩ | ⟨h1,h2,h3⟩
    ·exact .inl h
    ·rcases hstar with h | ⟨_,h4⟩ | ⟨_,h4,h5⟩
     ·exact .inl h
     ·exact .inr (.inl ⟨h1,h2,h4⟩)
     ·exact .inr (.inr (.inr ⟨h1,h4,h5⟩))
    ·exact .inr (.inr (.inl ⟨h1,h2,h3⟩))
   clear hpass hstar;rcases hsp with hp | ⟨hk,hp,hp2⟩ | ⟨hk,hp,hp2⟩ | ⟨hk,hp,hp2⟩
   ·have hO:OP=3:=by rw[<- HOP.out,if_neg (fun h=>by rw[h.1]at hp;simp at hp)]
    clear HOP;exact tpw
   ·exact tpx
   ·have hq2:(N == 58)=true:=by rw[hp];rfl
    have hq5:(N == 42)=false:=by rw[hp];rfl
    clear hp;subst hp2;exact tpxF
   ·have hq2:(N == 58)=false:=by rw[hp];rfl
    have hq3:(N == 42)=true:=by rw[hp];rfl
    clear hp;subst hp2;exact tpxF
  |have hx0:xs0=[]:=by rw[<- HXS.out];exact hx
   clear hx;subst hx0;rcases hpass with hp | ⟨rfl,hp⟩ | ⟨rfl,rfl,rfl⟩
   ·exact un1
   ·exact un1
   ·exact un1):P:=h
theorem term_nil (g:Nat) (l r:List AM) (w:Ab) (hP:Qr.PS g l r w) (kk nk:UInt8) (tt nt:List UInt8) (tg ng:Bool) (K N:Int) (ht:AT r=⟨kk,tt,tg⟩) (hK:(kk.toNat:Int)=K) (hn:F1 r=⟨nk,nt,ng⟩) (hN:(nk.toNat:Int)=N) (hk0:kk≠0) (hpass:(K == 114)=false\/(K=114/\(N == 58)=false)\/(K=114/\N=58/\ng=false)) (hx:Bp tt=[]) :
  Af A8 303 #[.pointer (A3 ⟨g,0,A0⟩)] w fun e w'=>e=.panicked [{ v:=Qr.wrongP,recovered:=false }]/\Qr.Fr g w w':=by
 exact v0v
theorem uzs (h:P:=by
 go_enter ES,Et
 go_wp2_with (first
  |(go_at_call 252;refine (L2 _ hPS4).mono ?_;rintro e w5 ⟨he,hb5⟩;have ew5:=Tx.nr he w5;subst he;have s5:=hb5.size;have kT5:=A6 (A6 KT4.out hb5) ew5;have kR5:=A6 (A6 KR4.out hb5) ew5;have kg5:=A6 (A6 KG4.out hb5) ew5;have hF5:=zoq;obtain⟨e50,-⟩:=Tx.c1 kT5;obtain⟨kc5,kf5,kl5⟩:=A7 kR5;obtain⟨z0,z1,z2,z3,z4,z5⟩:=Tx.d6 kc5;obtain⟨-,eg5,fg5⟩:=Tx.c2 kg5;have KG5:=J kg5;have KR5:=J kR5;clear kT5 kg5 kR5 kc5)
  |(go_at_call 208;refine (text_Words_c ⟨tt.toArray⟩ _ hPS3.gp.g hsz HV.out).mono ?_;rintro e w4 ⟨A',xs,rfl,hws,hSLA,hA',hb4⟩;obtain rfl:xs=xs0:=OX;clear hws;have s4:=hb4.size;have hPS4:=hPS3.below hb4;have KG4:=zno;have KT4:=znp;have KR4:=zjm;have hF4:=hF3.trans (.of_below hb4);clear eg fg e30 e31)
  |(go_at_call 252;refine (L1 _ (hP1.below (A9 _ _))).mono ?_;rintro e w2 ⟨he,hb2⟩;have ew2:=zps;subst he;have s1:=zbc;have s2:=zdv;have kT2:=zel;have kg2:=zas;have kR2:=zbe;have hF2:=zbb;obtain⟨e30,-⟩:=Tx.c1 kT2;obtain⟨-,e31⟩:=zld;obtain⟨-,eg,fg⟩:=zpo;have kg3:=zlp;have hF3:=zko;have hPS3:=zga;have kT3:=zdj;have kR3:=zdm;have KG3:=J kg3;have KT3:=J kT3;have KR3:=zrm;clear kg2 kT2 kR2 kg3 kT3 kR3)
  |(go_at_call 252;refine (L0 _ hP0).mono ?_;rintro e w1 ⟨rfl,hb1⟩;have hP1:=zng))
 first
  |refine Aw (v:=.agg #[.int .i64 OP,.int .i64 0,.slice (A3 ⟨A',0,A0⟩) xs.length xs.length,.int .i64 0,.int .i64 0,.slice A0 0 0]) (by simp[results,Gh,go_sem,z0,z1,z2,z3,z4,z5,hO]) rfl ⟨⟨OP,0,A3 ⟨A',0,A0⟩,xs.length,xs.length,0,0,A0,0,0⟩,rfl,Qr.QC.of_kids (ks:=[]) (Qr.Kp.sl hSLA zsd (Qr.Kp.put6 (M:=w.heap.size+1) ((Qr.Kp.below hb5).trans (Qr.Kp.below (A9 w5 _))) oQ _ _ _ _ _ _)) YX (Qr.KA.nil _ _),Qr.PS.of HPP.out KG.out (Qr.Fr.put6 hF5 (Ad _) _ _ _ _ _ _) HTE.out.1 (Qr.far6 KG5.out (show g≠w.heap.size by omega) _ _ _ _ _ _) HA1.out,(Qr.Fr.put6 hF5 (Ad _) _ _ _ _ _ _)⟩
  |exact⟨rfl,rfl,hF5⟩):P:=h
theorem tpw (h:P:=by
  exact uzs):P:=h
theorem tpwF (h:P:=by
  exact uzs):P:=h
theorem tpx (h:P:=by
  have hq:(K == 114)=true:=by rw[hk];rfl
  by_cases h1:xs0.length=1
  ·have hO:OP=1:=by rw[<- HOP.out,if_pos ⟨hk,h1⟩]
   clear HOP hk;have h1i:((xs0.length:Int) == 1)=true:=by rw[h1];rfl
   have H1:=J h1;clear h1;exact tpw
  ·have hO:=zqa;clear HOP hk;have h1i:=zkz;clear h1;exact tpw):P:=h
theorem tpxF (h:P:=by
  have hq:(K == 114)=true:=by rw[hk];rfl
  by_cases h1:xs0.length=1
  ·have hO:OP=1:=by rw[<- HOP.out,if_pos ⟨hk,h1⟩]
   clear HOP hk;have h1i:((xs0.length:Int) == 1)=true:=by rw[h1];rfl
   have H1:=J h1;clear h1;exact tpwF
  ·have hO:=zqa;clear HOP hk;have h1i:=zkz;clear h1;exact tpwF):P:=h
theorem term_plain (g:Nat) (l r:List AM) (w:Ab) (hP:Qr.PS g l r w) (kk nk:UInt8) (tt nt:List UInt8) (tg ng:Bool) (K N:Int) (ht:AT r=⟨kk,tt,tg⟩) (hK:(kk.toNat:Int)=K) (hn:F1 r=⟨nk,nt,ng⟩) (hN:(nk.toNat:Int)=N) (hk0:kk≠0) (hpass:(K == 114)=false\/(K=114/\(N == 58)=false)\/(K=114/\N=58/\ng=false)) (hx:Bp tt≠[]) (hstar:(K == 114)=false\/(K=114/\(N == 42)=false)\/(K=114/\N=42/\ng=false)) :
  Af A8 303 #[.pointer (A3 ⟨g,0,A0⟩)] w fun e w'=>Qr.Res g l (A3 (.mk (if K=114/\(Bp tt).length=1 then 1 else 3) 0 (Bp tt) 0 0 [],r.tail)) w e w':=by
 exact v0v
theorem term_star (g:Nat) (l r:List AM) (w:Ab) (hP:Qr.PS g l r w) (kk nk:UInt8) (tt nt:List UInt8) (tg ng:Bool) (K N:Int) (ht:AT r=⟨kk,tt,tg⟩) (hK:(kk.toNat:Int)=K) (hn:F1 r=⟨nk,nt,ng⟩) (hN:(nk.toNat:Int)=N) (hk0:kk≠0) (hnk0:nk≠0) (hpass:K=114/\N=42/\ng=true) (hx:Bp tt≠[]) :
  Af A8 303 #[.pointer (A3 ⟨g,0,A0⟩)] w fun e w'=>Qr.Res g l (if 1<(Bp tt).length then A0 else A3 (.mk 2 0 (Bp tt) 0 0 [],r.tail.tail)) w e w':=by
 have hk2:(AT r.tail).k≠0:=by rw[show AT r.tail=⟨nk,nt,ng⟩ from hn];exact hnk0
 exact v0v
end
namespace Qr
def YR (x:Option Nat) (e:Ending):Prop:=match x with
 | some n=>e=.returned (.int .i64 (n:Int))
 | none=>e=.panicked [{ v:=wrongP,recovered:=false }]
theorem index_one (c:UInt8):∀ l:List UInt8,Lib.index l [c]=Cx l c
 | []=>rfl
 | b::t=>by
  rw[Lib.index,Cx,index_one c t];have e:List.isPrefixOf [c] (b::t)=(b == c):=by simp[List.isPrefixOf,Bool.beq_comm]
  rw[e]
theorem cut_one (c:UInt8) (l:List UInt8):Lib.cut l [c]=match Sp.cut c l with | some (x,y)=>(x,y,true) | none=>(l,[],false):=by
 unfold Lib.cut;rw[index_one];rcases Sp.indexByte_cut c l with⟨h1,h2⟩ | ⟨i,h1,h2⟩
 ·rw[h1,h2,if_neg oX]
 ·rw[h1,h2,if_pos oQ];simp
end Qr
theorem yx3 (h:P:=by
 go_wp2_with (go_at_call 311;refine (Itoa_c v _ hv1 hv2 (hG.below hb1)).mono ?_;rintro e w2 ⟨rfl,hb2⟩);refine⟨rfl,?_,hb1.trans (hb2.mono hb1.size)⟩;rw[HN.out];rfl):P:=h
theorem year_c (s:ByteArray) (w:Ab) (hs:s.size<=281474976710656) (hG:G w) :
  Af A8 308 #[.string s] w fun e w'=>Qr.YR (Di s.data.toList) e/\Aa w.heap.size w w':=by
 have HL:=zpk;obtain⟨ln,hln⟩:∃ ln,s.size=ln:=⟨_,rfl⟩;go_enter Tryz.func308,Tryz.ntmps308;go_wp2_with fail;refine (Atoi_c s _ hs hG).mono ?_;rintro e w1 ⟨v,err,rfl,hb1,herr⟩;rcases herr with⟨rfl,h1⟩ | ⟨t,p,rfl,h1⟩
 ·obtain⟨hv1,hv2⟩:=Tx.atoi_bound h1;have HA:=J h1;clear h1;by_cases hlen:(4:Int)<s.size
  ·have HN:Hid (Di s.data.toList=A0):=J (by unfold Di;rw[if_pos eF]);go_wp2;refine⟨rfl,?_,hb1⟩;rw[HN.out];rfl
  ·have HY:Hid (Di s.data.toList=Nm.num s.data.toList):=J (by unfold Di;rw[if_neg eF]);have HLE:Hid (s.data.toList.length<=4):=J eF;obtain⟨b,hb⟩:∃ b,(Lib.itoa v == s.toList)=b:=⟨_,rfl⟩;cases b with
   | false =>
    have hne:Lib.itoa v≠s.data.toList:=by
     rw[AG]at hb;simpa using hb
    have hn:Nm.num s.data.toList=A0:=by
     cases hn:Nm.num s.data.toList with
     | none=>rfl
     | some n =>
      exfalso;have h2:=HA.out;rw[Nm.atoi_num hn]at h2;injection h2 with h2;exact hne (by rw[<- h2];exact Nm.itoa_num hn)
    have HN:=zlj;clear hn hne;exact yx3
   | true =>
    have heq:Lib.itoa v=s.data.toList:=by
     rw[AG]at hb;simpa using hb
    have HE:=J heq;clear heq;by_cases hv0:v<0
    ·have hn:Nm.num s.data.toList=A0:=by
      cases hn:Nm.num s.data.toList with
      | none=>rfl
      | some n =>
       exfalso;have h2:=HA.out;rw[Nm.atoi_num hn]at h2;injection h2 with h2;omega
     have HN:=zlj;clear hn;exact yx3
    ·have hn:=Nm.num_of_atoi oQ (Au HLE.out oQ) HE.out;have HN:Hid (Di s.data.toList=A3 v.toNat):=J (by rw[HY.out,hn]);have hz:((v.toNat:Nat):Int)=v:=Int.toNat_of_nonneg oQ;have HZ:=J hz;clear hz hn;go_wp2_with (go_at_call 311;refine (Itoa_c v _ hv1 hv2 (hG.below hb1)).mono ?_;rintro e w2 ⟨rfl,hb2⟩);go_ret;rw[HN.out];exact⟨Tx.ret1 HZ.out.symm,hb1.trans (hb2.mono hb1.size)⟩
 ·have hnone:Nm.num s.data.toList=A0:=by
   cases hn:Nm.num s.data.toList with
   | none=>rfl
   | some n=>exact (h1 _ (Nm.atoi_num hn)).elim
  have HN:Hid (Di s.data.toList=A0):=J (by unfold Di;rw[hnone];split <;> rfl);clear hnone h1;go_wp2;refine⟨rfl,?_,hb1⟩;rw[HN.out];rfl
end Go.Proofs.YtlakomilichhnaaGreatDoor
